/- What functions of the program compute, and that they do. -/
import Derived.Test.YthpfffijnkmdgaaCR
import Derived.Test.YthpfffijnkmdgaaGiven
set_option linter.unusedVariables false
set_option linter.unusedSimpArgs false
set_option maxRecDepth 100000
set_option maxHeartbeats 4000000
namespace Go.Proofs.Ythpfffijnkmdgaa
open Go Go.Cl
noncomputable section
noncomputable def c7 : Code := Try.f7.code
def S7_0 (r1 : List I2) (p2 : Int) (r3 : (List I2) × Int) (r5 : (List Int) × Int) (v267 : Int) (m285 : Bool) (v118 : Int) (r234 : I2 × I2) (v269 v119 : Int) : CAct := (st 244 [(5, accV 1 r1.length), (6, iv (Int.tmod (w64 p2) 3600)), (7, accV 2 r3.1.length), (8, iv r3.2), (9, accV 3 r5.1.length), (10, iv r5.2), (11, iv v267), (12, .bool m285), (13, iv (w64 (v118 + 1))), (17, iv (w64 (r234.1.1 + r234.1.2))), (18, iv (w64 (r234.2.1 + r234.2.2))), (22, iv v269), (23, iv (w64 ((Int.tmod (w64 p2) 3600) + (w64 (v269 * 3600))))), (45, iv (r1.length : Int)), (46, iv v119), (148, .bool false), (149, iv (w64 (r234.1.1 + r234.1.2))), (150, iv (w64 ((Int.tmod (w64 p2) 3600) + (w64 (v269 * 3600)))))])
def S7_1 (r1 : List I2) (p2 : Int) (r3 : (List I2) × Int) (r5 : (List Int) × Int) (v267 : Int) (m285 : Bool) (v118 : Int) (r234 : I2 × I2) (v269 v119 : Int) : CAct := (st 244 [(5, accV 1 r1.length), (6, iv (Int.tmod (w64 p2) 3600)), (7, accV 2 r3.1.length), (8, iv r3.2), (9, accV 3 r5.1.length), (10, iv r5.2), (11, iv v267), (12, .bool m285), (13, iv (w64 (v118 + 1))), (17, iv (w64 (r234.1.1 + r234.1.2))), (18, iv (w64 (r234.2.1 + r234.2.2))), (22, iv v269), (23, iv (w64 ((Int.tmod (w64 p2) 3600) + (w64 (v269 * 3600))))), (45, iv (r1.length : Int)), (46, iv v119), (143, .bool true), (144, iv (w64 ((Int.tmod (w64 p2) 3600) + (w64 (v269 * 3600))))), (145, iv (w64 (r234.2.1 + r234.2.2)))])
def S7_2 (r1 : List I2) (p2 : Int) (r3 : (List I2) × Int) (r5 : (List Int) × Int) (v310 : Int) (m328 : Bool) (v118 : Int) (r234 : I2 × I2) (v312 v119 : Int) : CAct := (st 244 [(5, accV 1 r1.length), (6, iv (Int.tmod (w64 p2) 3600)), (7, accV 2 r3.1.length), (8, iv r3.2), (9, accV 3 r5.1.length), (10, iv r5.2), (11, iv v310), (12, .bool m328), (13, iv v118), (17, iv (w64 (r234.1.1 + r234.1.2))), (18, iv (w64 (r234.2.1 + r234.2.2))), (22, iv v312), (23, iv (w64 ((Int.tmod (w64 p2) 3600) + (w64 (v312 * 3600))))), (45, iv (r1.length : Int)), (46, iv v119), (148, .bool false), (149, iv (w64 (r234.1.1 + r234.1.2))), (150, iv (w64 ((Int.tmod (w64 p2) 3600) + (w64 (v312 * 3600)))))])
def S7_3 (r1 : List I2) (p2 : Int) (r3 : (List I2) × Int) (r5 : (List Int) × Int) (v310 : Int) (m328 : Bool) (v118 : Int) (r234 : I2 × I2) (v312 v119 : Int) : CAct := (st 244 [(5, accV 1 r1.length), (6, iv (Int.tmod (w64 p2) 3600)), (7, accV 2 r3.1.length), (8, iv r3.2), (9, accV 3 r5.1.length), (10, iv r5.2), (11, iv v310), (12, .bool m328), (13, iv v118), (17, iv (w64 (r234.1.1 + r234.1.2))), (18, iv (w64 (r234.2.1 + r234.2.2))), (22, iv v312), (23, iv (w64 ((Int.tmod (w64 p2) 3600) + (w64 (v312 * 3600))))), (45, iv (r1.length : Int)), (46, iv v119), (143, .bool true), (144, iv (w64 ((Int.tmod (w64 p2) 3600) + (w64 (v312 * 3600))))), (145, iv (w64 (r234.2.1 + r234.2.2)))])
def S7_4 (r1 : List I2) (p2 : Int) (r3 : (List I2) × Int) (r5 : (List Int) × Int) (v267 : Int) (m285 : Bool) (v118 : Int) (r234 : I2 × I2) (v269 v119 : Int) : CAct := (st 244 [(5, accV 1 r1.length), (6, iv (Int.tmod (w64 p2) 3600)), (7, accV 2 r3.1.length), (8, iv r3.2), (9, accV 3 r5.1.length), (10, iv r5.2), (11, iv v267), (12, .bool m285), (13, iv (w64 (v118 + 1))), (17, iv (w64 (r234.1.1 + r234.1.2))), (18, iv (w64 (r234.2.1 + r234.2.2))), (22, iv v269), (23, iv (w64 ((Int.tmod (w64 p2) 3600) + (w64 (v269 * 3600))))), (45, iv (r1.length : Int)), (46, iv v119), (140, iv (w64 (r234.1.1 + r234.1.2))), (141, iv (w64 ((Int.tmod (w64 p2) 3600) + (w64 (v269 * 3600)))))])
def S7_5 (r1 : List I2) (p2 : Int) (r3 : (List I2) × Int) (r5 : (List Int) × Int) (v310 : Int) (m328 : Bool) (v118 : Int) (r234 : I2 × I2) (v312 v119 : Int) : CAct := (st 244 [(5, accV 1 r1.length), (6, iv (Int.tmod (w64 p2) 3600)), (7, accV 2 r3.1.length), (8, iv r3.2), (9, accV 3 r5.1.length), (10, iv r5.2), (11, iv v310), (12, .bool m328), (13, iv v118), (17, iv (w64 (r234.1.1 + r234.1.2))), (18, iv (w64 (r234.2.1 + r234.2.2))), (22, iv v312), (23, iv (w64 ((Int.tmod (w64 p2) 3600) + (w64 (v312 * 3600))))), (45, iv (r1.length : Int)), (46, iv v119), (140, iv (w64 (r234.1.1 + r234.1.2))), (141, iv (w64 ((Int.tmod (w64 p2) 3600) + (w64 (v312 * 3600)))))])
def S7_6 (r1 : List I2) (p2 : Int) (r3 : (List I2) × Int) (r5 : (List Int) × Int) (v267 v118 : Int) (r234 : I2 × I2) (v269 v119 : Int) : CAct := (st 244 [(5, accV 1 r1.length), (6, iv (Int.tmod (w64 p2) 3600)), (7, accV 2 r3.1.length), (8, iv r3.2), (9, accV 3 r5.1.length), (10, iv r5.2), (11, iv v267), (13, iv (w64 (v118 + 1))), (17, iv (w64 (r234.1.1 + r234.1.2))), (18, iv (w64 (r234.2.1 + r234.2.2))), (22, iv v269), (23, iv (w64 ((Int.tmod (w64 p2) 3600) + (w64 (v269 * 3600))))), (45, iv (r1.length : Int)), (46, iv v119), (130, .bool false), (131, iv (w64 (r234.1.1 + r234.1.2))), (132, iv (w64 (r234.2.1 + r234.2.2)))])
def S7_7 (r1 : List I2) (p2 : Int) (r3 : (List I2) × Int) (r5 : (List Int) × Int) (v116 : Int) (v117 : Bool) (v118 : Int) (r234 : I2 × I2) (r244 : (List I2) × Int) (v119 : Int) : CAct := (st 244 [(5, accV 1 r1.length), (6, iv (Int.tmod (w64 p2) 3600)), (7, accV 2 r3.1.length), (8, iv r3.2), (9, accV 3 r5.1.length), (10, iv r5.2), (11, iv v116), (12, .bool v117), (13, iv (w64 (v118 + 1))), (17, iv (w64 (r234.1.1 + r234.1.2))), (18, iv (w64 (r234.2.1 + r234.2.2))), (20, accV 6 r244.1.length), (21, iv r244.2), (45, iv (r1.length : Int)), (46, iv v119), (99, .bool false), (100, iv (w64 (r234.1.1 + r234.1.2))), (101, iv (w64 (r234.2.1 + r234.2.2)))])
def S7_8 (r1 : List I2) (p2 : Int) (r3 : (List I2) × Int) (r5 : (List Int) × Int) (v310 v118 : Int) (r234 : I2 × I2) (v312 v119 : Int) : CAct := (st 244 [(5, accV 1 r1.length), (6, iv (Int.tmod (w64 p2) 3600)), (7, accV 2 r3.1.length), (8, iv r3.2), (9, accV 3 r5.1.length), (10, iv r5.2), (11, iv v310), (13, iv v118), (17, iv (w64 (r234.1.1 + r234.1.2))), (18, iv (w64 (r234.2.1 + r234.2.2))), (22, iv v312), (23, iv (w64 ((Int.tmod (w64 p2) 3600) + (w64 (v312 * 3600))))), (45, iv (r1.length : Int)), (46, iv v119), (130, .bool false), (131, iv (w64 (r234.1.1 + r234.1.2))), (132, iv (w64 (r234.2.1 + r234.2.2)))])
def S7_9 (r1 : List I2) (p2 : Int) (r3 : (List I2) × Int) (r5 : (List Int) × Int) (v116 : Int) (v117 : Bool) (v118 : Int) (r234 : I2 × I2) (r244 : (List I2) × Int) (v119 : Int) : CAct := (st 244 [(5, accV 1 r1.length), (6, iv (Int.tmod (w64 p2) 3600)), (7, accV 2 r3.1.length), (8, iv r3.2), (9, accV 3 r5.1.length), (10, iv r5.2), (11, iv v116), (12, .bool v117), (13, iv (w64 (v118 + 1))), (17, iv (w64 (r234.1.1 + r234.1.2))), (18, iv (w64 (r234.2.1 + r234.2.2))), (20, accV 6 r244.1.length), (21, iv r244.2), (45, iv (r1.length : Int)), (46, iv v119), (99, .bool false), (103, .bool true), (106, .bool true), (108, .bool false)])
def S7_10 (r1 : List I2) (p2 : Int) (r3 : (List I2) × Int) (r5 : (List Int) × Int) (v116 : Int) (v117 : Bool) (v118 : Int) (r234 : I2 × I2) (r244 : (List I2) × Int) (v119 : Int) : CAct := (st 244 [(5, accV 1 r1.length), (6, iv (Int.tmod (w64 p2) 3600)), (7, accV 2 r3.1.length), (8, iv r3.2), (9, accV 3 r5.1.length), (10, iv r5.2), (11, iv v116), (12, .bool v117), (13, iv (w64 (v118 + 1))), (17, iv (w64 (r234.1.1 + r234.1.2))), (18, iv (w64 (r234.2.1 + r234.2.2))), (20, accV 6 r244.1.length), (21, iv r244.2), (45, iv (r1.length : Int)), (46, iv v119), (92, iv (w64 (r234.1.1 + r234.1.2))), (93, iv (w64 (r234.2.1 + r234.2.2)))])
def S7_11 (r1 : List I2) (p2 : Int) (r3 : (List I2) × Int) (r5 : (List Int) × Int) (v116 : Int) (v117 : Bool) (v118 : Int) (r234 : I2 × I2) (r244 : (List I2) × Int) (v119 : Int) : CAct := (st 244 [(5, accV 1 r1.length), (6, iv (Int.tmod (w64 p2) 3600)), (7, accV 2 r3.1.length), (8, iv r3.2), (9, accV 3 r5.1.length), (10, iv r5.2), (11, iv v116), (12, .bool v117), (13, iv (w64 (v118 + 1))), (17, iv (w64 (r234.1.1 + r234.1.2))), (18, iv (w64 (r234.2.1 + r234.2.2))), (20, accV 6 r244.1.length), (21, iv r244.2), (45, iv (r1.length : Int)), (46, iv v119), (99, .bool false), (103, .bool true), (106, .bool true), (107, iv r244.2)])
def S7_12 (r1 : List I2) (p2 : Int) (r3 : (List I2) × Int) (r5 : (List Int) × Int) (v267 : Int) (m285 : Bool) (v118 : Int) (r234 : I2 × I2) (v269 v119 : Int) : CAct := (st 244 [(5, accV 1 r1.length), (6, iv (Int.tmod (w64 p2) 3600)), (7, accV 2 r3.1.length), (8, iv r3.2), (9, accV 3 r5.1.length), (10, iv r5.2), (11, iv v267), (12, .bool m285), (13, iv (w64 (v118 + 1))), (17, iv (w64 (r234.1.1 + r234.1.2))), (18, iv (w64 (r234.2.1 + r234.2.2))), (22, iv v269), (45, iv (r1.length : Int)), (46, iv v119), (157, .bool (decide ((w64 ((Int.tmod (w64 p2) 3600) + (w64 (v269 * 3600)))) > (w64 (r234.2.1 + r234.2.2)))))])
def S7_13 (r1 : List I2) (p2 : Int) (r3 : (List I2) × Int) (r5 : (List Int) × Int) (v267 : Int) (m285 : Bool) (v118 : Int) (r234 : I2 × I2) (v269 v119 : Int) : CAct := (st 244 [(5, accV 1 r1.length), (6, iv (Int.tmod (w64 p2) 3600)), (7, accV 2 r3.1.length), (8, iv r3.2), (9, accV 3 r5.1.length), (10, iv r5.2), (11, iv v267), (12, .bool m285), (13, iv (w64 (v118 + 1))), (17, iv (w64 (r234.1.1 + r234.1.2))), (18, iv (w64 (r234.2.1 + r234.2.2))), (22, iv v269), (23, iv (w64 ((Int.tmod (w64 p2) 3600) + (w64 (v269 * 3600))))), (45, iv (r1.length : Int)), (46, iv v119), (148, .bool false), (151, .bool false)])
def S7_14 (r1 : List I2) (p2 : Int) (r3 : (List I2) × Int) (r5 : (List Int) × Int) (v267 : Int) (m285 : Bool) (v118 : Int) (r234 : I2 × I2) (v269 v119 : Int) : CAct := (st 244 [(5, accV 1 r1.length), (6, iv (Int.tmod (w64 p2) 3600)), (7, accV 2 r3.1.length), (8, iv r3.2), (9, accV 3 r5.1.length), (10, iv r5.2), (11, iv v267), (12, .bool m285), (13, iv (w64 (v118 + 1))), (17, iv (w64 (r234.1.1 + r234.1.2))), (18, iv (w64 (r234.2.1 + r234.2.2))), (22, iv v269), (23, iv (w64 ((Int.tmod (w64 p2) 3600) + (w64 (v269 * 3600))))), (45, iv (r1.length : Int)), (46, iv v119), (143, .bool true), (146, .bool false)])
def S7_15 (r1 : List I2) (p2 : Int) (r3 : (List I2) × Int) (r5 : (List Int) × Int) (v267 : Int) (m285 : Bool) (v118 : Int) (r234 : I2 × I2) (v269 v119 : Int) : CAct := (st 244 [(5, accV 1 r1.length), (6, iv (Int.tmod (w64 p2) 3600)), (7, accV 2 r3.1.length), (8, iv r3.2), (9, accV 3 r5.1.length), (10, iv r5.2), (11, iv v267), (12, .bool m285), (13, iv (w64 (v118 + 1))), (17, iv (w64 (r234.1.1 + r234.1.2))), (18, iv (w64 (r234.2.1 + r234.2.2))), (22, iv v269), (23, iv (w64 ((Int.tmod (w64 p2) 3600) + (w64 (v269 * 3600))))), (45, iv (r1.length : Int)), (46, iv v119), (148, .bool false), (151, .bool true)])
def S7_16 (r1 : List I2) (p2 : Int) (r3 : (List I2) × Int) (r5 : (List Int) × Int) (v310 : Int) (m328 : Bool) (v118 : Int) (r234 : I2 × I2) (v312 v119 : Int) : CAct := (st 244 [(5, accV 1 r1.length), (6, iv (Int.tmod (w64 p2) 3600)), (7, accV 2 r3.1.length), (8, iv r3.2), (9, accV 3 r5.1.length), (10, iv r5.2), (11, iv v310), (12, .bool m328), (13, iv v118), (17, iv (w64 (r234.1.1 + r234.1.2))), (18, iv (w64 (r234.2.1 + r234.2.2))), (22, iv v312), (45, iv (r1.length : Int)), (46, iv v119), (157, .bool (decide ((w64 ((Int.tmod (w64 p2) 3600) + (w64 (v312 * 3600)))) > (w64 (r234.2.1 + r234.2.2)))))])
def S7_17 (r1 : List I2) (p2 : Int) (r3 : (List I2) × Int) (r5 : (List Int) × Int) (v116 : Int) (v117 : Bool) (v118 : Int) (r234 : I2 × I2) (r244 : (List I2) × Int) (v119 : Int) : CAct := (st 244 [(5, accV 1 r1.length), (6, iv (Int.tmod (w64 p2) 3600)), (7, accV 2 r3.1.length), (8, iv r3.2), (9, accV 3 r5.1.length), (10, iv r5.2), (11, iv v116), (12, .bool v117), (13, iv (w64 (v118 + 1))), (17, iv (w64 (r234.1.1 + r234.1.2))), (18, iv (w64 (r234.2.1 + r234.2.2))), (20, accV 6 r244.1.length), (45, iv (r1.length : Int)), (46, iv v119), (99, .bool false), (103, .bool true), (110, .bool false), (112, .bool false)])
def S7_18 (r1 : List I2) (p2 : Int) (r3 : (List I2) × Int) (r5 : (List Int) × Int) (v116 : Int) (v117 : Bool) (v118 : Int) (r234 : I2 × I2) (r244 : (List I2) × Int) (v119 : Int) : CAct := (st 244 [(5, accV 1 r1.length), (6, iv (Int.tmod (w64 p2) 3600)), (7, accV 2 r3.1.length), (8, iv r3.2), (9, accV 3 r5.1.length), (10, iv r5.2), (11, iv v116), (12, .bool v117), (13, iv (w64 (v118 + 1))), (17, iv (w64 (r234.1.1 + r234.1.2))), (18, iv (w64 (r234.2.1 + r234.2.2))), (20, accV 6 r244.1.length), (45, iv (r1.length : Int)), (46, iv v119), (99, .bool false), (103, .bool true), (110, .bool false), (112, .bool true)])
def S7_19 (r1 : List I2) (p2 : Int) (r3 : (List I2) × Int) (r5 : (List Int) × Int) (v116 : Int) (v117 : Bool) (v118 : Int) (r234 : I2 × I2) (r244 : (List I2) × Int) (v119 : Int) : CAct := (st 244 [(5, accV 1 r1.length), (6, iv (Int.tmod (w64 p2) 3600)), (7, accV 2 r3.1.length), (8, iv r3.2), (9, accV 3 r5.1.length), (10, iv r5.2), (11, iv v116), (12, .bool v117), (13, iv (w64 (v118 + 1))), (17, iv (w64 (r234.1.1 + r234.1.2))), (18, iv (w64 (r234.2.1 + r234.2.2))), (20, accV 6 r244.1.length), (45, iv (r1.length : Int)), (46, iv v119), (99, .bool false), (103, .bool true), (110, .bool false), (111, iv r244.2)])
def S7_20 (r1 : List I2) (p2 : Int) (r3 : (List I2) × Int) (r5 : (List Int) × Int) (v116 : Int) (v117 : Bool) (v118 : Int) (r234 : I2 × I2) (r244 : (List I2) × Int) (v119 : Int) : CAct := (st 244 [(5, accV 1 r1.length), (6, iv (Int.tmod (w64 p2) 3600)), (7, accV 2 r3.1.length), (8, iv r3.2), (9, accV 3 r5.1.length), (10, iv r5.2), (11, iv v116), (12, .bool v117), (13, iv (w64 (v118 + 1))), (17, iv (w64 (r234.1.1 + r234.1.2))), (18, iv (w64 (r234.2.1 + r234.2.2))), (20, accV 6 r244.1.length), (21, iv r244.2), (45, iv (r1.length : Int)), (46, iv v119), (99, .bool false), (103, .bool true), (105, .bool false)])
def S7_21 (r1 : List I2) (p2 : Int) (r3 : (List I2) × Int) (r5 : (List Int) × Int) (v116 : Int) (v117 : Bool) (v118 : Int) (r234 : I2 × I2) (r244 : (List I2) × Int) (v119 : Int) : CAct := (st 244 [(5, accV 1 r1.length), (6, iv (Int.tmod (w64 p2) 3600)), (7, accV 2 r3.1.length), (8, iv r3.2), (9, accV 3 r5.1.length), (10, iv r5.2), (11, iv v116), (12, .bool v117), (13, iv (w64 (v118 + 1))), (17, iv (w64 (r234.1.1 + r234.1.2))), (18, iv (w64 (r234.2.1 + r234.2.2))), (20, accV 6 r244.1.length), (21, iv r244.2), (45, iv (r1.length : Int)), (46, iv v119), (99, .bool false), (103, .bool true), (105, .bool true)])
def S7_22 (r1 : List I2) (p2 : Int) (r3 : (List I2) × Int) (r5 : (List Int) × Int) (v310 : Int) (m328 : Bool) (v118 : Int) (r234 : I2 × I2) (v312 v119 : Int) : CAct := (st 244 [(5, accV 1 r1.length), (6, iv (Int.tmod (w64 p2) 3600)), (7, accV 2 r3.1.length), (8, iv r3.2), (9, accV 3 r5.1.length), (10, iv r5.2), (11, iv v310), (12, .bool m328), (13, iv v118), (17, iv (w64 (r234.1.1 + r234.1.2))), (18, iv (w64 (r234.2.1 + r234.2.2))), (22, iv v312), (23, iv (w64 ((Int.tmod (w64 p2) 3600) + (w64 (v312 * 3600))))), (45, iv (r1.length : Int)), (46, iv v119), (148, .bool false), (151, .bool false)])
def S7_23 (r1 : List I2) (p2 : Int) (r3 : (List I2) × Int) (r5 : (List Int) × Int) (v116 : Int) (v117 : Bool) (v118 : Int) (r234 : I2 × I2) (r244 : (List I2) × Int) (v119 : Int) : CAct := (st 244 [(5, accV 1 r1.length), (6, iv (Int.tmod (w64 p2) 3600)), (7, accV 2 r3.1.length), (8, iv r3.2), (9, accV 3 r5.1.length), (10, iv r5.2), (11, iv v116), (12, .bool v117), (13, iv (w64 (v118 + 1))), (17, iv (w64 (r234.1.1 + r234.1.2))), (18, iv (w64 (r234.2.1 + r234.2.2))), (20, accV 6 r244.1.length), (21, iv r244.2), (45, iv (r1.length : Int)), (46, iv v119), (99, .bool false), (103, .bool true), (104, iv r244.2)])
def S7_24 (r1 : List I2) (p2 : Int) (r3 : (List I2) × Int) (r5 : (List Int) × Int) (v310 : Int) (m328 : Bool) (v118 : Int) (r234 : I2 × I2) (v312 v119 : Int) : CAct := (st 244 [(5, accV 1 r1.length), (6, iv (Int.tmod (w64 p2) 3600)), (7, accV 2 r3.1.length), (8, iv r3.2), (9, accV 3 r5.1.length), (10, iv r5.2), (11, iv v310), (12, .bool m328), (13, iv v118), (17, iv (w64 (r234.1.1 + r234.1.2))), (18, iv (w64 (r234.2.1 + r234.2.2))), (22, iv v312), (23, iv (w64 ((Int.tmod (w64 p2) 3600) + (w64 (v312 * 3600))))), (45, iv (r1.length : Int)), (46, iv v119), (143, .bool true), (146, .bool false)])
def S7_25 (r1 : List I2) (p2 : Int) (r3 : (List I2) × Int) (r5 : (List Int) × Int) (v310 : Int) (m328 : Bool) (v118 : Int) (r234 : I2 × I2) (v312 v119 : Int) : CAct := (st 244 [(5, accV 1 r1.length), (6, iv (Int.tmod (w64 p2) 3600)), (7, accV 2 r3.1.length), (8, iv r3.2), (9, accV 3 r5.1.length), (10, iv r5.2), (11, iv v310), (12, .bool m328), (13, iv v118), (17, iv (w64 (r234.1.1 + r234.1.2))), (18, iv (w64 (r234.2.1 + r234.2.2))), (22, iv v312), (23, iv (w64 ((Int.tmod (w64 p2) 3600) + (w64 (v312 * 3600))))), (45, iv (r1.length : Int)), (46, iv v119), (148, .bool false), (151, .bool true)])
def S7_26 (r1 : List I2) (p2 : Int) (r3 : (List I2) × Int) (r5 : (List Int) × Int) (v267 : Int) (m285 : Bool) (v118 : Int) (r234 : I2 × I2) (v269 v119 : Int) : CAct := (st 244 [(5, accV 1 r1.length), (6, iv (Int.tmod (w64 p2) 3600)), (7, accV 2 r3.1.length), (8, iv r3.2), (9, accV 3 r5.1.length), (10, iv r5.2), (11, iv v267), (12, .bool m285), (13, iv (w64 (v118 + 1))), (17, iv (w64 (r234.1.1 + r234.1.2))), (18, iv (w64 (r234.2.1 + r234.2.2))), (22, iv v269), (23, iv (w64 ((Int.tmod (w64 p2) 3600) + (w64 (v269 * 3600))))), (45, iv (r1.length : Int)), (46, iv v119), (142, .bool false)])
def S7_27 (r1 : List I2) (p2 : Int) (r3 : (List I2) × Int) (r5 : (List Int) × Int) (v267 : Int) (m285 : Bool) (v118 : Int) (r234 : I2 × I2) (v269 v119 : Int) : CAct := (st 244 [(5, accV 1 r1.length), (6, iv (Int.tmod (w64 p2) 3600)), (7, accV 2 r3.1.length), (8, iv r3.2), (9, accV 3 r5.1.length), (10, iv r5.2), (11, iv v267), (12, .bool m285), (13, iv (w64 (v118 + 1))), (17, iv (w64 (r234.1.1 + r234.1.2))), (18, iv (w64 (r234.2.1 + r234.2.2))), (22, iv v269), (23, iv (w64 ((Int.tmod (w64 p2) 3600) + (w64 (v269 * 3600))))), (45, iv (r1.length : Int)), (46, iv v119), (142, .bool true)])
def S7_28 (r1 : List I2) (p2 : Int) (r3 : (List I2) × Int) (r5 : (List Int) × Int) (v116 : Int) (v117 : Bool) (v118 : Int) (r234 : I2 × I2) (r244 : (List I2) × Int) (v119 : Int) : CAct := (st 244 [(5, accV 1 r1.length), (6, iv (Int.tmod (w64 p2) 3600)), (7, accV 2 r3.1.length), (8, iv r3.2), (9, accV 3 r5.1.length), (10, iv r5.2), (11, iv v116), (12, .bool v117), (13, iv (w64 (v118 + 1))), (17, iv (w64 (r234.1.1 + r234.1.2))), (18, iv (w64 (r234.2.1 + r234.2.2))), (20, accV 6 r244.1.length), (21, iv r244.2), (45, iv (r1.length : Int)), (46, iv v119), (99, .bool false), (102, .bool false)])
def S7_29 (r1 : List I2) (p2 : Int) (r3 : (List I2) × Int) (r5 : (List Int) × Int) (v116 : Int) (v117 : Bool) (v118 : Int) (r234 : I2 × I2) (r244 : (List I2) × Int) (v119 : Int) : CAct := (st 244 [(5, accV 1 r1.length), (6, iv (Int.tmod (w64 p2) 3600)), (7, accV 2 r3.1.length), (8, iv r3.2), (9, accV 3 r5.1.length), (10, iv r5.2), (11, iv v116), (12, .bool v117), (13, iv (w64 (v118 + 1))), (17, iv (w64 (r234.1.1 + r234.1.2))), (18, iv (w64 (r234.2.1 + r234.2.2))), (20, accV 6 r244.1.length), (21, iv r244.2), (45, iv (r1.length : Int)), (46, iv v119), (99, .bool false), (102, .bool true)])
def S7_30 (r1 : List I2) (p2 : Int) (r3 : (List I2) × Int) (r5 : (List Int) × Int) (v116 : Int) (v117 : Bool) (v118 : Int) (r234 : I2 × I2) (r244 : (List I2) × Int) (v119 : Int) : CAct := (st 244 [(5, accV 1 r1.length), (6, iv (Int.tmod (w64 p2) 3600)), (7, accV 2 r3.1.length), (8, iv r3.2), (9, accV 3 r5.1.length), (10, iv r5.2), (11, iv v116), (12, .bool v117), (13, iv (w64 (v118 + 1))), (17, iv (w64 (r234.1.1 + r234.1.2))), (18, iv (w64 (r234.2.1 + r234.2.2))), (20, accV 6 r244.1.length), (21, iv r244.2), (45, iv (r1.length : Int)), (46, iv v119), (95, .bool true), (97, .bool false)])
def S7_31 (r1 : List I2) (p2 : Int) (r3 : (List I2) × Int) (r5 : (List Int) × Int) (v310 : Int) (m328 : Bool) (v118 : Int) (r234 : I2 × I2) (v312 v119 : Int) : CAct := (st 244 [(5, accV 1 r1.length), (6, iv (Int.tmod (w64 p2) 3600)), (7, accV 2 r3.1.length), (8, iv r3.2), (9, accV 3 r5.1.length), (10, iv r5.2), (11, iv v310), (12, .bool m328), (13, iv v118), (17, iv (w64 (r234.1.1 + r234.1.2))), (18, iv (w64 (r234.2.1 + r234.2.2))), (22, iv v312), (23, iv (w64 ((Int.tmod (w64 p2) 3600) + (w64 (v312 * 3600))))), (45, iv (r1.length : Int)), (46, iv v119), (142, .bool false)])
def S7_32 (r1 : List I2) (p2 : Int) (r3 : (List I2) × Int) (r5 : (List Int) × Int) (v310 : Int) (m328 : Bool) (v118 : Int) (r234 : I2 × I2) (v312 v119 : Int) : CAct := (st 244 [(5, accV 1 r1.length), (6, iv (Int.tmod (w64 p2) 3600)), (7, accV 2 r3.1.length), (8, iv r3.2), (9, accV 3 r5.1.length), (10, iv r5.2), (11, iv v310), (12, .bool m328), (13, iv v118), (17, iv (w64 (r234.1.1 + r234.1.2))), (18, iv (w64 (r234.2.1 + r234.2.2))), (22, iv v312), (23, iv (w64 ((Int.tmod (w64 p2) 3600) + (w64 (v312 * 3600))))), (45, iv (r1.length : Int)), (46, iv v119), (142, .bool true)])
def S7_33 (r1 : List I2) (p2 : Int) (r3 : (List I2) × Int) (r5 : (List Int) × Int) (v116 : Int) (v117 : Bool) (v118 : Int) (r234 : I2 × I2) (r244 : (List I2) × Int) (v119 : Int) : CAct := (st 244 [(5, accV 1 r1.length), (6, iv (Int.tmod (w64 p2) 3600)), (7, accV 2 r3.1.length), (8, iv r3.2), (9, accV 3 r5.1.length), (10, iv r5.2), (11, iv v116), (12, .bool v117), (13, iv (w64 (v118 + 1))), (17, iv (w64 (r234.1.1 + r234.1.2))), (18, iv (w64 (r234.2.1 + r234.2.2))), (20, accV 6 r244.1.length), (21, iv r244.2), (45, iv (r1.length : Int)), (46, iv v119), (95, .bool true), (96, iv r244.2)])
def S7_34 (r1 : List I2) (p2 : Int) (r3 : (List I2) × Int) (r5 : (List Int) × Int) (v116 : Int) (v117 : Bool) (v118 : Int) (r234 : I2 × I2) (r244 : (List I2) × Int) (v119 : Int) : CAct := (st 244 [(5, accV 1 r1.length), (6, iv (Int.tmod (w64 p2) 3600)), (7, accV 2 r3.1.length), (8, iv r3.2), (9, accV 3 r5.1.length), (10, iv r5.2), (11, iv v116), (12, .bool v117), (13, iv (w64 (v118 + 1))), (17, iv (w64 (r234.1.1 + r234.1.2))), (18, iv (w64 (r234.2.1 + r234.2.2))), (20, accV 6 r244.1.length), (21, iv r244.2), (45, iv (r1.length : Int)), (46, iv v119), (94, .bool false)])
def S7_35 (r1 : List I2) (p2 : Int) (r3 : (List I2) × Int) (r5 : (List Int) × Int) (v116 : Int) (v117 : Bool) (v118 : Int) (r234 : I2 × I2) (r244 : (List I2) × Int) (v119 : Int) : CAct := (st 244 [(5, accV 1 r1.length), (6, iv (Int.tmod (w64 p2) 3600)), (7, accV 2 r3.1.length), (8, iv r3.2), (9, accV 3 r5.1.length), (10, iv r5.2), (11, iv v116), (12, .bool v117), (13, iv (w64 (v118 + 1))), (17, iv (w64 (r234.1.1 + r234.1.2))), (18, iv (w64 (r234.2.1 + r234.2.2))), (20, accV 6 r244.1.length), (21, iv r244.2), (45, iv (r1.length : Int)), (46, iv v119), (94, .bool true)])
def S7_36 (r1 : List I2) (p2 : Int) (r3 : (List I2) × Int) (r5 : (List Int) × Int) (v116 : Int) (v117 : Bool) (v118 : Int) (r234 : I2 × I2) (v119 : Int) (r244 : (List I2) × Int) : CAct := (st 244 [(5, accV 1 r1.length), (6, iv (Int.tmod (w64 p2) 3600)), (7, accV 2 r3.1.length), (8, iv r3.2), (9, accV 3 r5.1.length), (10, iv r5.2), (11, iv v116), (12, .bool v117), (13, iv (w64 (v118 + 1))), (17, iv (w64 (r234.1.1 + r234.1.2))), (18, iv (w64 (r234.2.1 + r234.2.2))), (45, iv (r1.length : Int)), (46, iv v119), (120, .bool (decide ((r244.1.length : Int) < 2)))])
def S7_37 (r1 : List I2) (p2 : Int) (r3 : (List I2) × Int) (r5 : (List Int) × Int) (v116 : Int) (v117 : Bool) (v118 v119 : Int) (r234 : I2 × I2) : CAct := (st 244 [(5, accV 1 r1.length), (6, iv (Int.tmod (w64 p2) 3600)), (7, accV 2 r3.1.length), (8, iv r3.2), (9, accV 3 r5.1.length), (10, iv r5.2), (11, iv v116), (12, .bool v117), (13, iv v118), (14, iv v119), (17, iv (w64 (r234.1.1 + r234.1.2))), (18, iv (w64 (r234.2.1 + r234.2.2))), (45, iv (r1.length : Int)), (46, iv v119), (68, iv v118), (70, iv (r5.1.length : Int))])
def S7_38 (r1 : List I2) (p2 : Int) (r3 : (List I2) × Int) (r5 : (List Int) × Int) (v267 : Int) (m285 : Bool) (v118 : Int) (r234 : I2 × I2) (v269 v119 : Int) : CAct := (st 244 [(5, accV 1 r1.length), (6, iv (Int.tmod (w64 p2) 3600)), (7, accV 2 r3.1.length), (8, iv r3.2), (9, accV 3 r5.1.length), (10, iv r5.2), (11, iv v267), (12, .bool m285), (13, iv (w64 (v118 + 1))), (17, iv (w64 (r234.1.1 + r234.1.2))), (18, iv (w64 (r234.2.1 + r234.2.2))), (22, iv v269), (45, iv (r1.length : Int)), (46, iv v119), (157, .bool false)])
def S7_39 (r1 : List I2) (p2 : Int) (r3 : (List I2) × Int) (r5 : (List Int) × Int) (m293 : Int) (m285 : Bool) (v118 : Int) (r234 : I2 × I2) (v269 v119 : Int) : CAct := (st 244 [(5, accV 1 r1.length), (6, iv (Int.tmod (w64 p2) 3600)), (7, accV 2 r3.1.length), (8, iv r3.2), (9, accV 3 r5.1.length), (10, iv r5.2), (11, iv m293), (12, .bool m285), (13, iv (w64 (v118 + 1))), (17, iv (w64 (r234.1.1 + r234.1.2))), (18, iv (w64 (r234.2.1 + r234.2.2))), (22, iv (w64 (v269 + 1))), (45, iv (r1.length : Int)), (46, iv v119)])
def S7_40 (r1 : List I2) (p2 : Int) (r3 : (List I2) × Int) (r5 : (List Int) × Int) (v310 : Int) (m328 : Bool) (v118 : Int) (r234 : I2 × I2) (v312 v119 : Int) : CAct := (st 244 [(5, accV 1 r1.length), (6, iv (Int.tmod (w64 p2) 3600)), (7, accV 2 r3.1.length), (8, iv r3.2), (9, accV 3 r5.1.length), (10, iv r5.2), (11, iv v310), (12, .bool m328), (13, iv v118), (17, iv (w64 (r234.1.1 + r234.1.2))), (18, iv (w64 (r234.2.1 + r234.2.2))), (22, iv v312), (45, iv (r1.length : Int)), (46, iv v119), (157, .bool false)])
def S7_41 (r1 : List I2) (p2 : Int) (r3 : (List I2) × Int) (r5 : (List Int) × Int) (v116 : Int) (v117 : Bool) (v118 : Int) (r234 : I2 × I2) (v119 : Int) : CAct := (st 244 [(5, accV 1 r1.length), (6, iv (Int.tmod (w64 p2) 3600)), (7, accV 2 r3.1.length), (8, iv r3.2), (9, accV 3 r5.1.length), (10, iv r5.2), (11, iv v116), (12, .bool v117), (13, iv (w64 (v118 + 1))), (17, iv (w64 (r234.1.1 + r234.1.2))), (18, iv (w64 (r234.2.1 + r234.2.2))), (45, iv (r1.length : Int)), (46, iv v119), (120, .bool false)])
def S7_42 (r1 : List I2) (p2 : Int) (r3 : (List I2) × Int) (r5 : (List Int) × Int) (v116 : Int) (v117 : Bool) (v118 : Int) (r234 : I2 × I2) (v119 : Int) : CAct := (st 244 [(5, accV 1 r1.length), (6, iv (Int.tmod (w64 p2) 3600)), (7, accV 2 r3.1.length), (8, iv r3.2), (9, accV 3 r5.1.length), (10, iv r5.2), (11, iv v116), (12, .bool v117), (13, iv (w64 (v118 + 1))), (17, iv (w64 (r234.1.1 + r234.1.2))), (18, iv (w64 (r234.2.1 + r234.2.2))), (45, iv (r1.length : Int)), (46, iv v119), (120, .bool true)])
def S7_43 (r1 : List I2) (p2 : Int) (r3 : (List I2) × Int) (r5 : (List Int) × Int) (v267 : Int) (v268 : Bool) (v118 : Int) (r234 : I2 × I2) (v269 v119 : Int) : CAct := (st 244 [(5, accV 1 r1.length), (6, iv (Int.tmod (w64 p2) 3600)), (7, accV 2 r3.1.length), (8, iv r3.2), (9, accV 3 r5.1.length), (10, iv r5.2), (11, iv v267), (12, .bool v268), (13, iv (w64 (v118 + 1))), (17, iv (w64 (r234.1.1 + r234.1.2))), (18, iv (w64 (r234.2.1 + r234.2.2))), (22, iv v269), (45, iv (r1.length : Int)), (46, iv v119)])
def S7_44 (r1 : List I2) (p2 : Int) (r3 : (List I2) × Int) (r5 : (List Int) × Int) (m336 : Int) (m328 : Bool) (v118 : Int) (r234 : I2 × I2) (v312 v119 : Int) : CAct := (st 244 [(5, accV 1 r1.length), (6, iv (Int.tmod (w64 p2) 3600)), (7, accV 2 r3.1.length), (8, iv r3.2), (9, accV 3 r5.1.length), (10, iv r5.2), (11, iv m336), (12, .bool m328), (13, iv v118), (17, iv (w64 (r234.1.1 + r234.1.2))), (18, iv (w64 (r234.2.1 + r234.2.2))), (22, iv (w64 (v312 + 1))), (45, iv (r1.length : Int)), (46, iv v119)])
def S7_45 (r1 : List I2) (p2 : Int) (r3 : (List I2) × Int) (r5 : (List Int) × Int) (v116 : Int) (v117 : Bool) (v118 : Int) (r234 : I2 × I2) (v119 : Int) : CAct := (st 244 [(5, accV 1 r1.length), (6, iv (Int.tmod (w64 p2) 3600)), (7, accV 2 r3.1.length), (8, iv r3.2), (9, accV 3 r5.1.length), (10, iv r5.2), (11, iv v116), (12, .bool v117), (13, iv (w64 (v118 + 1))), (17, iv (w64 (r234.1.1 + r234.1.2))), (18, iv (w64 (r234.2.1 + r234.2.2))), (22, iv (-2)), (45, iv (r1.length : Int)), (46, iv v119)])
def S7_46 (r1 : List I2) (p2 : Int) (r3 : (List I2) × Int) (r5 : (List Int) × Int) (v116 : Int) (v117 : Bool) (v118 : Int) (r234 : I2 × I2) (v119 : Int) : CAct := (st 244 [(5, accV 1 r1.length), (6, iv (Int.tmod (w64 p2) 3600)), (7, accV 2 r3.1.length), (8, iv r3.2), (9, accV 3 r5.1.length), (10, iv r5.2), (11, iv v116), (12, .bool v117), (13, iv v118), (17, iv (w64 (r234.1.1 + r234.1.2))), (18, iv (w64 (r234.2.1 + r234.2.2))), (22, iv (-2)), (45, iv (r1.length : Int)), (46, iv v119)])
def S7_47 (r1 : List I2) (p2 : Int) (r3 : (List I2) × Int) (v373 : Int) (o395 : I2) (r397 : Bool) : CAct := (st 244 [(5, accV 1 r1.length), (6, iv (Int.tmod (w64 p2) 3600)), (7, accV 2 r3.1.length), (24, iv v373), (25, pt 3 0), (197, accV 2 r3.1.length), (198, iv (r3.1.length : Int)), (199, iv v373), (204, ag [iv o395.1, iv o395.2]), (205, .bool r397), (206, .bool false), (207, .bool false), (208, iv v373)])
def S7_48 (r1 : List I2) (p2 : Int) (r3 : (List I2) × Int) (r5 : (List Int) × Int) (r297 : Int × Bool) (v118 v119 : Int) : CAct := (st 244 [(5, accV 1 r1.length), (6, iv (Int.tmod (w64 p2) 3600)), (7, accV 2 r3.1.length), (8, iv r3.2), (9, accV 3 r5.1.length), (10, iv r5.2), (11, iv r297.1), (12, .bool r297.2), (13, iv (w64 (v118 + 1))), (45, iv (r1.length : Int)), (46, iv (w64 (v119 + 1)))])
def S7_49 (r1 : List I2) (p2 : Int) (r3 : (List I2) × Int) (r5 : (List Int) × Int) (r340 : Int × Bool) (v118 v119 : Int) : CAct := (st 244 [(5, accV 1 r1.length), (6, iv (Int.tmod (w64 p2) 3600)), (7, accV 2 r3.1.length), (8, iv r3.2), (9, accV 3 r5.1.length), (10, iv r5.2), (11, iv r340.1), (12, .bool r340.2), (13, iv v118), (45, iv (r1.length : Int)), (46, iv (w64 (v119 + 1)))])
def H7_50 (p0 r1 : List I2) (r3 : (List I2) × Int) (r5 : (List Int) × Int) (r244 : (List I2) × Int) : List Blk := [ab 81 e81 p0, ab 55 e55 r1, ab 29 e29 r3.1, ab 3 e3 r5.1, .dead, .dead, ab 29 e29 r244.1]
def H7_51 (p0 r1 : List I2) (r3 : (List I2) × Int) (r5 : (List Int) × Int) (r234 : I2 × I2) : List Blk := [ab 81 e81 p0, ab 55 e55 r1, ab 29 e29 r3.1, ab 3 e3 r5.1, cl 55 [iv r234.1.1, iv r234.1.2], cl 55 [iv r234.2.1, iv r234.2.2]]
def S7_52 (r1 : List I2) (p2 : Int) (r3 : (List I2) × Int) (v373 : Int) (o395 : I2) : CAct := (st 244 [(5, accV 1 r1.length), (6, iv (Int.tmod (w64 p2) 3600)), (7, accV 2 r3.1.length), (24, iv v373), (25, pt 3 0), (197, accV 2 r3.1.length), (198, iv (r3.1.length : Int)), (199, iv v373), (204, ag [iv o395.1, iv o395.2])])
def S7_53 (r1 : List I2) (p2 : Int) (r3 : (List I2) × Int) (r5 : (List Int) × Int) (o345 : Int × Bool × Int) : CAct := (st 244 [(5, accV 1 r1.length), (6, iv (Int.tmod (w64 p2) 3600)), (7, accV 2 r3.1.length), (9, accV 3 r5.1.length), (11, iv o345.1), (182, .bool false), (184, iv (r3.1.length : Int)), (185, iv o345.1)])
def H7_54 (p0 r1 : List I2) (r3 : (List I2) × Int) (r5 : (List Int) × Int) : List Blk := [ab 81 e81 p0, ab 55 e55 r1, ab 29 e29 r3.1, ab 3 e3 r5.1, .dead, .dead, .dead]
def H7_55 (p0 r1 : List I2) (r3 : (List I2) × Int) (r5 : (List Int) × Int) : List Blk := [ab 81 e81 p0, ab 55 e55 r1, ab 29 e29 r3.1, ab 3 e3 r5.1, .dead, .dead]
def S7_56 (r1 : List I2) (p2 : Int) (r3 : (List I2) × Int) (v373 : Int) : CAct := (st 244 [(5, accV 1 r1.length), (6, iv (Int.tmod (w64 p2) 3600)), (7, accV 2 r3.1.length), (197, accV 2 r3.1.length), (198, iv (r3.1.length : Int)), (199, iv (w64 (v373 + 1)))])
def H7_57 (p0 r1 : List I2) (r3 : (List I2) × Int) (r5 : (List Int) × Int) : List Blk := [ab 81 e81 p0, ab 55 e55 r1, ab 29 e29 r3.1, ab 3 e3 r5.1]
def S7_58 (r1 : List I2) (p2 : Int) (r3 : (List I2) × Int) (v373 : Int) : CAct := (st 244 [(5, accV 1 r1.length), (6, iv (Int.tmod (w64 p2) 3600)), (7, accV 2 r3.1.length), (197, accV 2 r3.1.length), (198, iv (r3.1.length : Int)), (199, iv v373)])
def S7_59 (r1 : List I2) (p2 : Int) (r3 : (List I2) × Int) : CAct := (st 244 [(5, accV 1 r1.length), (6, iv (Int.tmod (w64 p2) 3600)), (7, accV 2 r3.1.length), (197, accV 2 r3.1.length), (198, iv (r3.1.length : Int)), (199, iv 0)])
def H7_60 (p0 r1 : List I2) (r3 : (List I2) × Int) (o395 : I2) : List Blk := [ab 81 e81 p0, ab 55 e55 r1, ab 29 e29 r3.1, cl 29 [iv o395.1, iv o395.2]]
def S7_61 (r1 : List I2) (p2 : Int) (r3 : (List I2) × Int) (r5 : (List Int) × Int) (o345 : Int × Bool × Int) : CAct := (st 244 [(5, accV 1 r1.length), (6, iv (Int.tmod (w64 p2) 3600)), (7, accV 2 r3.1.length), (9, accV 3 r5.1.length), (11, iv o345.1), (181, .bool false)])
def S7_62 (r1 : List I2) (p2 : Int) (r3 : (List I2) × Int) (r5 : (List Int) × Int) (o345 : Int × Bool × Int) : CAct := (st 244 [(5, accV 1 r1.length), (6, iv (Int.tmod (w64 p2) 3600)), (7, accV 2 r3.1.length), (9, accV 3 r5.1.length), (11, iv o345.1), (180, iv r3.2)])
def H7_63 (p0 r1 : List I2) (r3 : (List I2) × Int) : List Blk := [ab 81 e81 p0, ab 55 e55 r1, ab 29 e29 r3.1, .dead]
def H7_64 (p0 r1 : List I2) (r3 : (List I2) × Int) : List Blk := [ab 81 e81 p0, ab 55 e55 r1, ab 29 e29 r3.1]
def H7_65 (p0 : List I2) (r3 : (List I2) × Int) : List Blk := [ab 81 e81 p0, .dead, ab 29 e29 r3.1, .dead]
def H7_66 (p0 : List I2) : List Blk := [ab 81 e81 p0, .dead, .dead, .dead]
def F7l1 (p0 : List I2) (p2 : Int) (r1 : List I2) (r3 : (List I2) × Int) (r5 : (List Int) × Int) (r234 : I2 × I2) (v118 v119 v267 : Int) (v268 : Bool) (v269 : Int) : Option (Int × Bool) :=
 if decide (v269 ≤ 2) then
  (
   if v268 then
    some (true)
   else
    if (w64 (r234.1.1 + r234.1.2)) == (w64 (r234.2.1 + r234.2.2)) then
     some ((w64 ((Int.tmod (w64 p2) 3600) + (w64 (v269 * 3600)))) == (w64 (r234.1.1 + r234.1.2)))
    else
     some (false)
  : Option Bool) >>= fun m285 =>
  (
   if decide ((w64 (r234.1.1 + r234.1.2)) ≤ (w64 ((Int.tmod (w64 p2) 3600) + (w64 (v269 * 3600))))) then
    if decide ((w64 ((Int.tmod (w64 p2) 3600) + (w64 (v269 * 3600)))) < (w64 (r234.2.1 + r234.2.2))) then
     some (true)
    else
     if decide ((w64 (r234.1.1 + r234.1.2)) ≥ (w64 ((Int.tmod (w64 p2) 3600) + (w64 (v269 * 3600))))) then
      some (decide ((w64 ((Int.tmod (w64 p2) 3600) + (w64 (v269 * 3600)))) > (w64 (r234.2.1 + r234.2.2))))
     else
      some (false)
   else
    if decide ((w64 (r234.1.1 + r234.1.2)) ≥ (w64 ((Int.tmod (w64 p2) 3600) + (w64 (v269 * 3600))))) then
     some (decide ((w64 ((Int.tmod (w64 p2) 3600) + (w64 (v269 * 3600)))) > (w64 (r234.2.1 + r234.2.2))))
    else
     some (false)
  : Option Bool) >>= fun m290 =>
  (
   if m290 then
    some (w64 (v267 + 1))
   else
    some v267
  : Option Int) >>= fun m293 =>
  F7l1 p0 p2 r1 r3 r5 r234 v118 v119 m293 m285 (w64 (v269 + 1))
 else
  some (v267, v268)
 partial_fixpoint
def F7l2 (p0 : List I2) (p2 : Int) (r1 : List I2) (r3 : (List I2) × Int) (r5 : (List Int) × Int) (r234 : I2 × I2) (v118 v119 v310 : Int) (v311 : Bool) (v312 : Int) : Option (Int × Bool) :=
 if decide (v312 ≤ 2) then
  (
   if v311 then
    some (true)
   else
    if (w64 (r234.1.1 + r234.1.2)) == (w64 (r234.2.1 + r234.2.2)) then
     some ((w64 ((Int.tmod (w64 p2) 3600) + (w64 (v312 * 3600)))) == (w64 (r234.1.1 + r234.1.2)))
    else
     some (false)
  : Option Bool) >>= fun m328 =>
  (
   if decide ((w64 (r234.1.1 + r234.1.2)) ≤ (w64 ((Int.tmod (w64 p2) 3600) + (w64 (v312 * 3600))))) then
    if decide ((w64 ((Int.tmod (w64 p2) 3600) + (w64 (v312 * 3600)))) < (w64 (r234.2.1 + r234.2.2))) then
     some (true)
    else
     if decide ((w64 (r234.1.1 + r234.1.2)) ≥ (w64 ((Int.tmod (w64 p2) 3600) + (w64 (v312 * 3600))))) then
      some (decide ((w64 ((Int.tmod (w64 p2) 3600) + (w64 (v312 * 3600)))) > (w64 (r234.2.1 + r234.2.2))))
     else
      some (false)
   else
    if decide ((w64 (r234.1.1 + r234.1.2)) ≥ (w64 ((Int.tmod (w64 p2) 3600) + (w64 (v312 * 3600))))) then
     some (decide ((w64 ((Int.tmod (w64 p2) 3600) + (w64 (v312 * 3600)))) > (w64 (r234.2.1 + r234.2.2))))
    else
     some (false)
  : Option Bool) >>= fun m333 =>
  (
   if m333 then
    some (w64 (v310 + 1))
   else
    some v310
  : Option Int) >>= fun m336 =>
  F7l2 p0 p2 r1 r3 r5 r234 v118 v119 m336 m328 (w64 (v312 + 1))
 else
  some (v310, v311)
 partial_fixpoint
def F7l0 (p0 : List I2) (p2 : Int) (r1 : List I2) (r3 : (List I2) × Int) (r5 : (List Int) × Int) (v116 : Int) (v117 : Bool) (v118 v119 : Int) : Option (Unit ⊕ (Int × Bool × Int)) :=
 if decide (v119 < (r1.length : Int)) then
  F39 r1 v119 >>= fun r234 =>
  if decide ((w64 (r234.2.1 + r234.2.2)) ≤ (w64 (r234.1.1 + r234.1.2))) then
   (
    if decide (v118 ≥ (r5.1.length : Int)) then
     some (true)
    else
     if (0 : Int) ≤ v118 ∧ v118 < (r5.1.length : Int) then
      some (List.getD r5.1 (Int.toNat v118) 0) >>= fun o239 =>
      some (o239 != v119)
     else none
   : Option Bool) >>= fun m241 =>
   if m241 then
    some (.inl ())
   else
    some (Int.tmod (w64 ((Int.tmod (w64 (r234.1.1 + r234.1.2)) 3600) + 3600)) 3600) >>= fun o242 =>
    F24 r1 o242 >>= fun r244 =>
    (
     if (w64 (r234.1.1 + r234.1.2)) == (w64 (r234.2.1 + r234.2.2)) then
      if r244.2 != 16 then
       some (true)
      else
       if decide ((w64 (r234.1.1 + r234.1.2)) > (w64 (r234.2.1 + r234.2.2))) then
        if r244.2 != 0 then
         if r244.2 == 0 then
          some (decide ((r244.1.length : Int) < 2))
         else
          some (false)
        else
         if r244.2 == 0 then
          some (decide ((r244.1.length : Int) < 2))
         else
          some (false)
       else
        some (false)
     else
      if decide ((w64 (r234.1.1 + r234.1.2)) > (w64 (r234.2.1 + r234.2.2))) then
       if r244.2 != 0 then
        if r244.2 != 16 then
         some (true)
        else
         if r244.2 == 0 then
          some (decide ((r244.1.length : Int) < 2))
         else
          some (false)
       else
        if r244.2 == 0 then
         some (decide ((r244.1.length : Int) < 2))
        else
         some (false)
      else
       some (false)
    : Option Bool) >>= fun m257 =>
    if m257 then
     some (.inl ())
    else
     F7l1 p0 p2 r1 r3 r5 r234 v118 v119 v116 v117 (-2) >>= fun r297 =>
     F7l0 p0 p2 r1 r3 r5 r297.1 r297.2 (w64 (v118 + 1)) (w64 (v119 + 1))
  else
   F7l2 p0 p2 r1 r3 r5 r234 v118 v119 v116 v117 (-2) >>= fun r340 =>
   F7l0 p0 p2 r1 r3 r5 r340.1 r340.2 v118 (w64 (v119 + 1))
 else
  some (.inr (v116, v117, v118))
 partial_fixpoint
def F7l3 (p0 : List I2) (p2 : Int) (r1 : List I2) (r3 : (List I2) × Int) (v373 : Int) : Option (Unit ⊕ Unit) :=
 if decide (v373 < (r3.1.length : Int)) then
  if (0 : Int) ≤ v373 ∧ v373 < (r3.1.length : Int) then
   some (List.getD r3.1 (Int.toNat v373) (0, 0)) >>= fun o395 =>
   F40 o395.1 o395.2 3600 >>= fun r397 =>
   (
    if !r397 then
     some (true)
    else
     if decide (v373 > 0) then
      if (0 : Int) ≤ w64 (v373 - 1) ∧ w64 (v373 - 1) < (r3.1.length : Int) then
       some (List.getD r3.1 (Int.toNat (w64 (v373 - 1))) (0, 0)) >>= fun o402 =>
       some (decide ((w64 (o402.1 * o395.2)) ≥ (w64 (o395.1 * o402.2))))
      else none
     else
      some (false)
   : Option Bool) >>= fun m404 =>
   if m404 then
    some (.inl ())
   else
    F41 r1 o395.1 o395.2 >>= fun r405 =>
    F42 r405.1.1 r405.1.2 (Int.tmod (w64 p2) 3600) >>= fun r407 =>
    if !r407 then
     some (.inl ())
    else
     F7l3 p0 p2 r1 r3 (w64 (v373 + 1))
  else none
 else
  some (.inr ())
 partial_fixpoint
def F7 (p0 : List I2) (p1 p2 : Int) : Option Bool :=
 F38 p0 p1 >>= fun r1 =>
 F24 r1 (Int.tmod (w64 p2) 3600) >>= fun r3 =>
 F19 r1 >>= fun r5 =>
 F7l0 p0 p2 r1 r3 r5 0 false 0 0 >>= fun r342 =>
 match r342 with
 | .inl o344 =>
  some false
 | .inr o345 =>
  (
   if r5.2 != 0 then
    some (true)
   else
    some (o345.2.2 != (r5.1.length : Int))
  : Option Bool) >>= fun m347 =>
  if m347 then
   some false
  else
   if o345.2.1 then
    (
     if r3.2 == 16 then
      if (r3.1.length : Int) == 0 then
       F15 >>= fun r351 =>
       some (r351)
      else
       some (false)
     else
      some (false)
    : Option Bool) >>= fun m353 =>
    some m353
   else
    (
     if r3.2 != 0 then
      some (true)
     else
      if (r3.1.length : Int) != o345.1 then
       some (true)
      else
       if (r5.1.length : Int) == 0 then
        some (o345.1 != 1)
       else
        some (false)
    : Option Bool) >>= fun m358 =>
    if m358 then
     some false
    else
     F7l3 p0 p2 r1 r3 0 >>= fun r411 =>
     match r411 with
     | .inl o413 =>
      some false
     | .inr o414 =>
      F15 >>= fun r415 =>
      some r415
def V7 (b : Nat) (r : Bool) : Value := .bool r
def N7 (b : Nat) (r : Bool) : List Blk := []
def P7l1 (p0 : List I2) (p2 : Int) (r1 : List I2) (r3 : (List I2) × Int) (r5 : (List Int) × Int) (r234 : I2 × I2) (v118 v119 : Int) (r : Int × Bool) : Post := fun e a h => e = .exit 2 ∧ Wk Try.prog 1 1 a h (st 244 [(5, accV 1 r1.length), (6, iv (Int.tmod (w64 p2) 3600)), (7, accV 2 r3.1.length), (8, iv r3.2), (9, accV 3 r5.1.length), (10, iv r5.2), (11, iv r.1), (12, .bool r.2), (13, iv (w64 (v118 + 1))), (45, iv (r1.length : Int)), (46, iv v119)]) (H7_57 p0 r1 r3 r5)
theorem L7l1 (p0 : List I2) (p2 : Int) (r1 : List I2) (r3 : (List I2) × Int) (r5 : (List Int) × Int) (r234 : I2 × I2) (v118 v119 v267 : Int) (v268 : Bool) (v269 : Int) (r : Int × Bool) (hF : F7l1 p0 p2 r1 r3 r5 r234 v118 v119 v267 v268 v269 = some r) : TL Try.prog 1 1 c7.s2.s2.s2.s2.s2.s2.s2.s1.s2.bd.bd.s2.s2.s1.bd.s2.s2.s2.s2.s2.bd.bd (S7_43 r1 p2 r3 r5 v267 v268 v118 r234 v269 v119) (H7_57 p0 r1 r3 r5) (P7l1 p0 p2 r1 r3 r5 r234 v118 v119 r) := by
 refine F7l1.partial_correctness p0 p2 r1 r3 r5 r234 v118 v119 (motive := fun v267 v268 v269 r => TL Try.prog 1 1 c7.s2.s2.s2.s2.s2.s2.s2.s1.s2.bd.bd.s2.s2.s1.bd.s2.s2.s2.s2.s2.bd.bd (S7_43 r1 p2 r3 r5 v267 v268 v118 r234 v269 v119) (H7_57 p0 r1 r3 r5) (P7l1 p0 p2 r1 r3 r5 r234 v118 v119 r)) ?_ v267 v268 v269 r hF
 clear hF r v267 v268 v269
 intro again ih v267 v268 v269 r hF
 refine TL.round (TS.sq (TS.sq (TS.rg (TI.ra 2 [5, 6, 7, 8, 9, 10, 11, 12, 13, 17, 18, 22, 45, 46, 122] (st 244 [(5, accV 1 r1.length), (6, iv (Int.tmod (w64 p2) 3600)), (7, accV 2 r3.1.length), (8, iv r3.2), (9, accV 3 r5.1.length), (10, iv r5.2), (11, iv v267), (12, .bool v268), (13, iv (w64 (v118 + 1))), (17, iv (w64 (r234.1.1 + r234.1.2))), (18, iv (w64 (r234.2.1 + r234.2.2))), (22, iv v269), (45, iv (r1.length : Int)), (46, iv v119), (122, .bool (decide (v269 ≤ 2)))]) (TI.dn (NX.sq ?_))))))
 refine TS.cd (.tmp 122) (decide (v269 ≤ 2)) (fun hc283 => ?_) (fun hc283 => ?_)
 · replace hF := of_pos hF hc283
   refine TS.sk (NX.sq (TS.sq (TS.bk 3 (TS.sq (TS.rg (TI.ra 5 [5, 6, 7, 8, 9, 10, 11, 12, 13, 17, 18, 22, 23, 45, 46] (st 244 [(5, accV 1 r1.length), (6, iv (Int.tmod (w64 p2) 3600)), (7, accV 2 r3.1.length), (8, iv r3.2), (9, accV 3 r5.1.length), (10, iv r5.2), (11, iv v267), (12, .bool v268), (13, iv (w64 (v118 + 1))), (17, iv (w64 (r234.1.1 + r234.1.2))), (18, iv (w64 (r234.2.1 + r234.2.2))), (22, iv v269), (23, iv (w64 ((Int.tmod (w64 p2) 3600) + (w64 (v269 * 3600))))), (45, iv (r1.length : Int)), (46, iv v119)]) (TI.dn (NX.sq ?_))))))))
   refine TS.sq ?_
   obtain ⟨m285, hm296, hF⟩ := of_do hF
   have hK : NX Try.prog 1 1 [.sq c7.s2.s2.s2.s2.s2.s2.s2.s1.s2.bd.bd.s2.s2.s1.bd.s2.s2.s2.s2.s2.bd.bd.s2.s1.bd.s2.s2, .bk 3, .sq c7.s2.s2.s2.s2.s2.s2.s2.s1.s2.bd.bd.s2.s2.s1.bd.s2.s2.s2.s2.s2.bd.bd.s2.s2] (Rd Try.prog 1 1 c7.s2.s2.s2.s2.s2.s2.s2.s1.s2.bd.bd.s2.s2.s1.bd.s2.s2.s2.s2.s2.bd.bd (P7l1 p0 p2 r1 r3 r5 r234 v118 v119 r)) .normal (st 244 [(5, accV 1 r1.length), (6, iv (Int.tmod (w64 p2) 3600)), (7, accV 2 r3.1.length), (8, iv r3.2), (9, accV 3 r5.1.length), (10, iv r5.2), (11, iv v267), (12, .bool m285), (13, iv (w64 (v118 + 1))), (17, iv (w64 (r234.1.1 + r234.1.2))), (18, iv (w64 (r234.2.1 + r234.2.2))), (22, iv v269), (23, iv (w64 ((Int.tmod (w64 p2) 3600) + (w64 (v269 * 3600))))), (45, iv (r1.length : Int)), (46, iv v119)]) (H7_57 p0 r1 r3 r5) := by
    refine NX.sq (TS.sq ?_)
    obtain ⟨m290, hm295, hF⟩ := of_do hF
    have hK : NX Try.prog 1 1 [.sq c7.s2.s2.s2.s2.s2.s2.s2.s1.s2.bd.bd.s2.s2.s1.bd.s2.s2.s2.s2.s2.bd.bd.s2.s1.bd.s2.s2.s2, .bk 3, .sq c7.s2.s2.s2.s2.s2.s2.s2.s1.s2.bd.bd.s2.s2.s1.bd.s2.s2.s2.s2.s2.bd.bd.s2.s2] (Rd Try.prog 1 1 c7.s2.s2.s2.s2.s2.s2.s2.s1.s2.bd.bd.s2.s2.s1.bd.s2.s2.s2.s2.s2.bd.bd (P7l1 p0 p2 r1 r3 r5 r234 v118 v119 r)) .normal (st 244 [(5, accV 1 r1.length), (6, iv (Int.tmod (w64 p2) 3600)), (7, accV 2 r3.1.length), (8, iv r3.2), (9, accV 3 r5.1.length), (10, iv r5.2), (11, iv v267), (12, .bool m285), (13, iv (w64 (v118 + 1))), (17, iv (w64 (r234.1.1 + r234.1.2))), (18, iv (w64 (r234.2.1 + r234.2.2))), (22, iv v269), (45, iv (r1.length : Int)), (46, iv v119), (157, .bool m290)]) (H7_57 p0 r1 r3 r5) := by
     refine NX.sq ?_
     obtain ⟨m293, hm294, hF⟩ := of_do hF
     have hK : NX Try.prog 1 1 [.bk 3, .sq c7.s2.s2.s2.s2.s2.s2.s2.s1.s2.bd.bd.s2.s2.s1.bd.s2.s2.s2.s2.s2.bd.bd.s2.s2] (Rd Try.prog 1 1 c7.s2.s2.s2.s2.s2.s2.s2.s1.s2.bd.bd.s2.s2.s1.bd.s2.s2.s2.s2.s2.bd.bd (P7l1 p0 p2 r1 r3 r5 r234 v118 v119 r)) .normal (st 244 [(5, accV 1 r1.length), (6, iv (Int.tmod (w64 p2) 3600)), (7, accV 2 r3.1.length), (8, iv r3.2), (9, accV 3 r5.1.length), (10, iv r5.2), (11, iv m293), (12, .bool m285), (13, iv (w64 (v118 + 1))), (17, iv (w64 (r234.1.1 + r234.1.2))), (18, iv (w64 (r234.2.1 + r234.2.2))), (22, iv v269), (45, iv (r1.length : Int)), (46, iv v119)]) (H7_57 p0 r1 r3 r5) := by
      refine NX.bk (NX.sq (TS.rg (TI.ra 3 [5, 6, 7, 8, 9, 10, 11, 12, 13, 17, 18, 22, 45, 46] (S7_39 r1 p2 r3 r5 m293 m285 v118 r234 v269 v119) (TI.dn ?_))))
      exact Rd.again (a2 := (S7_39 r1 p2 r3 r5 m293 m285 v118 r234 v269 v119)) (h2 := (H7_57 p0 r1 r3 r5)) (Wk.an [1, 2, 3] (.ac (.ac (.ac (.ac (.nil _))))) [accV 1 r1.length, iv (Int.tmod (w64 p2) 3600), accV 2 r3.1.length, iv r3.2, accV 3 r5.1.length, iv r5.2, iv m293, .bool m285, iv (w64 (v118 + 1)), iv (w64 (r234.1.1 + r234.1.2)), iv (w64 (r234.2.1 + r234.2.2)), iv (w64 (v269 + 1)), iv (r1.length : Int), iv v119] (.cons (Rn.acc (nl rfl) rfl) (.fl (.cons (Rn.acc (nl rfl) rfl) (.fl (.cons (Rn.acc (nl rfl) rfl) (.fl (.fl (.fl (.fl (.fl (.fl (.fl (.fl (.fl .nil))))))))))))))) (ih m293 m285 (w64 (v269 + 1)) _ hF)
     clear hF
     have hF := hm294
     clear hm294
     refine TS.start ?_
     cases m290 with
     | true =>
      replace hF := of_pos hF rfl
      refine TS.cdT (.tmp 157) (TS.rg (TI.ra 3 [5, 6, 7, 8, 9, 10, 11, 12, 13, 17, 18, 22, 45, 46] (st 244 [(5, accV 1 r1.length), (6, iv (Int.tmod (w64 p2) 3600)), (7, accV 2 r3.1.length), (8, iv r3.2), (9, accV 3 r5.1.length), (10, iv r5.2), (11, iv (w64 (v267 + 1))), (12, .bool m285), (13, iv (w64 (v118 + 1))), (17, iv (w64 (r234.1.1 + r234.1.2))), (18, iv (w64 (r234.2.1 + r234.2.2))), (22, iv v269), (45, iv (r1.length : Int)), (46, iv v119)]) (TI.dn ?_)))
      have hF := sj hF
      subst hF
      exact TS.weak (by exact (Wk.an [1, 2, 3] (.ac (.ac (.ac (.ac (.nil _))))) [accV 1 r1.length, iv (Int.tmod (w64 p2) 3600), accV 2 r3.1.length, iv r3.2, accV 3 r5.1.length, iv r5.2, iv (w64 (v267 + 1)), .bool m285, iv (w64 (v118 + 1)), iv (w64 (r234.1.1 + r234.1.2)), iv (w64 (r234.2.1 + r234.2.2)), iv v269, iv (r1.length : Int), iv v119] (.cons (Rn.acc (nl rfl) rfl) (.fl (.cons (Rn.acc (nl rfl) rfl) (.fl (.cons (Rn.acc (nl rfl) rfl) (.fl (.fl (.fl (.fl (.fl (.fl (.fl (.fl (.fl .nil)))))))))))))))) hK
     | false =>
      replace hF := of_neg hF rfl
      refine TS.cdF (.tmp 157) (TS.sk ?_)
      have hF := sj hF
      subst hF
      exact TS.weak (by exact (Wk.an [1, 2, 3] (.ac (.ac (.ac (.ac (.nil _))))) [accV 1 r1.length, iv (Int.tmod (w64 p2) 3600), accV 2 r3.1.length, iv r3.2, accV 3 r5.1.length, iv r5.2, iv v267, .bool m285, iv (w64 (v118 + 1)), iv (w64 (r234.1.1 + r234.1.2)), iv (w64 (r234.2.1 + r234.2.2)), iv v269, iv (r1.length : Int), iv v119] (.cons (Rn.acc (nl rfl) rfl) (.fl (.cons (Rn.acc (nl rfl) rfl) (.fl (.cons (Rn.acc (nl rfl) rfl) (.fl (.fl (.fl (.fl (.fl (.fl (.fl (.fl (.fl .nil)))))))))))))))) hK
    rcases Bool.eq_false_or_eq_true (decide ((w64 (r234.1.1 + r234.1.2)) ≤ (w64 ((Int.tmod (w64 p2) 3600) + (w64 (v269 * 3600)))))) with hc286 | hc286
    · replace hm295 := of_pos hm295 hc286
      rcases Bool.eq_false_or_eq_true (decide ((w64 ((Int.tmod (w64 p2) 3600) + (w64 (v269 * 3600)))) < (w64 (r234.2.1 + r234.2.2)))) with hc287 | hc287
      · replace hm295 := of_pos hm295 hc287
        have hm295 := sj hm295
        subst hm295
        exact TS.rg (TI.ra 2 [5, 6, 7, 8, 9, 10, 11, 12, 13, 17, 18, 22, 23, 45, 46, 140, 141] (S7_4 r1 p2 r3 r5 v267 m285 v118 r234 v269 v119) (TI.o { val := .bool true } (q_conv (e := decide ((w64 (r234.1.1 + r234.1.2)) ≤ (w64 ((Int.tmod (w64 p2) 3600) + (w64 (v269 * 3600)))))) (b := true) (by kernel_rfl) hc286) [5, 6, 7, 8, 9, 10, 11, 12, 13, 17, 18, 22, 23, 45, 46, 142] [0, 1, 2, 3] (S7_27 r1 p2 r3 r5 v267 m285 v118 r234 v269 v119) (H7_57 p0 r1 r3 r5) (TI.ra 3 [5, 6, 7, 8, 9, 10, 11, 12, 13, 17, 18, 22, 23, 45, 46, 143, 144, 145] (S7_1 r1 p2 r3 r5 v267 m285 v118 r234 v269 v119) (TI.o { val := .bool true } (q_conv (e := decide ((w64 ((Int.tmod (w64 p2) 3600) + (w64 (v269 * 3600)))) < (w64 (r234.2.1 + r234.2.2)))) (b := true) (by kernel_rfl) hc287) [5, 6, 7, 8, 9, 10, 11, 12, 13, 17, 18, 22, 23, 45, 46, 143, 146] [0, 1, 2, 3] (st 244 [(5, accV 1 r1.length), (6, iv (Int.tmod (w64 p2) 3600)), (7, accV 2 r3.1.length), (8, iv r3.2), (9, accV 3 r5.1.length), (10, iv r5.2), (11, iv v267), (12, .bool m285), (13, iv (w64 (v118 + 1))), (17, iv (w64 (r234.1.1 + r234.1.2))), (18, iv (w64 (r234.2.1 + r234.2.2))), (22, iv v269), (23, iv (w64 ((Int.tmod (w64 p2) 3600) + (w64 (v269 * 3600))))), (45, iv (r1.length : Int)), (46, iv v119), (143, .bool true), (146, .bool true)]) (H7_57 p0 r1 r3 r5) (TI.ra 11 [5, 6, 7, 8, 9, 10, 11, 12, 13, 17, 18, 22, 45, 46, 157] (st 244 [(5, accV 1 r1.length), (6, iv (Int.tmod (w64 p2) 3600)), (7, accV 2 r3.1.length), (8, iv r3.2), (9, accV 3 r5.1.length), (10, iv r5.2), (11, iv v267), (12, .bool m285), (13, iv (w64 (v118 + 1))), (17, iv (w64 (r234.1.1 + r234.1.2))), (18, iv (w64 (r234.2.1 + r234.2.2))), (22, iv v269), (45, iv (r1.length : Int)), (46, iv v119), (157, .bool true)]) (TI.dn hK))))))
      replace hm295 := of_neg hm295 hc287
      rcases Bool.eq_false_or_eq_true (decide ((w64 (r234.1.1 + r234.1.2)) ≥ (w64 ((Int.tmod (w64 p2) 3600) + (w64 (v269 * 3600)))))) with hc288 | hc288
      · replace hm295 := of_pos hm295 hc288
        have hm295 := sj hm295
        subst hm295
        refine TS.rg (TI.ra 2 [5, 6, 7, 8, 9, 10, 11, 12, 13, 17, 18, 22, 23, 45, 46, 140, 141] (S7_4 r1 p2 r3 r5 v267 m285 v118 r234 v269 v119) (TI.o { val := .bool true } (q_conv (e := decide ((w64 (r234.1.1 + r234.1.2)) ≤ (w64 ((Int.tmod (w64 p2) 3600) + (w64 (v269 * 3600)))))) (b := true) (by kernel_rfl) hc286) [5, 6, 7, 8, 9, 10, 11, 12, 13, 17, 18, 22, 23, 45, 46, 142] [0, 1, 2, 3] (S7_27 r1 p2 r3 r5 v267 m285 v118 r234 v269 v119) (H7_57 p0 r1 r3 r5) (TI.ra 3 [5, 6, 7, 8, 9, 10, 11, 12, 13, 17, 18, 22, 23, 45, 46, 143, 144, 145] (S7_1 r1 p2 r3 r5 v267 m285 v118 r234 v269 v119) (TI.o { val := .bool false } (q_conv (e := decide ((w64 ((Int.tmod (w64 p2) 3600) + (w64 (v269 * 3600)))) < (w64 (r234.2.1 + r234.2.2)))) (b := false) (by kernel_rfl) hc287) [5, 6, 7, 8, 9, 10, 11, 12, 13, 17, 18, 22, 23, 45, 46, 143, 146] [0, 1, 2, 3] (S7_14 r1 p2 r3 r5 v267 m285 v118 r234 v269 v119) (H7_57 p0 r1 r3 r5) (TI.ra 4 [5, 6, 7, 8, 9, 10, 11, 12, 13, 17, 18, 22, 23, 45, 46, 148, 149, 150] (S7_0 r1 p2 r3 r5 v267 m285 v118 r234 v269 v119) (TI.o { val := .bool true } (q_conv (e := decide ((w64 (r234.1.1 + r234.1.2)) ≥ (w64 ((Int.tmod (w64 p2) 3600) + (w64 (v269 * 3600)))))) (b := true) (by kernel_rfl) hc288) [5, 6, 7, 8, 9, 10, 11, 12, 13, 17, 18, 22, 23, 45, 46, 148, 151] [0, 1, 2, 3] (S7_15 r1 p2 r3 r5 v267 m285 v118 r234 v269 v119) (H7_57 p0 r1 r3 r5) (TI.ra 6 [5, 6, 7, 8, 9, 10, 11, 12, 13, 17, 18, 22, 45, 46, 157] (S7_12 r1 p2 r3 r5 v267 m285 v118 r234 v269 v119) (TI.dn ?_))))))))
        exact hK
      replace hm295 := of_neg hm295 hc288
      have hm295 := sj hm295
      subst hm295
      refine TS.rg (TI.ra 2 [5, 6, 7, 8, 9, 10, 11, 12, 13, 17, 18, 22, 23, 45, 46, 140, 141] (S7_4 r1 p2 r3 r5 v267 m285 v118 r234 v269 v119) (TI.o { val := .bool true } (q_conv (e := decide ((w64 (r234.1.1 + r234.1.2)) ≤ (w64 ((Int.tmod (w64 p2) 3600) + (w64 (v269 * 3600)))))) (b := true) (by kernel_rfl) hc286) [5, 6, 7, 8, 9, 10, 11, 12, 13, 17, 18, 22, 23, 45, 46, 142] [0, 1, 2, 3] (S7_27 r1 p2 r3 r5 v267 m285 v118 r234 v269 v119) (H7_57 p0 r1 r3 r5) (TI.ra 3 [5, 6, 7, 8, 9, 10, 11, 12, 13, 17, 18, 22, 23, 45, 46, 143, 144, 145] (S7_1 r1 p2 r3 r5 v267 m285 v118 r234 v269 v119) (TI.o { val := .bool false } (q_conv (e := decide ((w64 ((Int.tmod (w64 p2) 3600) + (w64 (v269 * 3600)))) < (w64 (r234.2.1 + r234.2.2)))) (b := false) (by kernel_rfl) hc287) [5, 6, 7, 8, 9, 10, 11, 12, 13, 17, 18, 22, 23, 45, 46, 143, 146] [0, 1, 2, 3] (S7_14 r1 p2 r3 r5 v267 m285 v118 r234 v269 v119) (H7_57 p0 r1 r3 r5) (TI.ra 4 [5, 6, 7, 8, 9, 10, 11, 12, 13, 17, 18, 22, 23, 45, 46, 148, 149, 150] (S7_0 r1 p2 r3 r5 v267 m285 v118 r234 v269 v119) (TI.o { val := .bool false } (q_conv (e := decide ((w64 (r234.1.1 + r234.1.2)) ≥ (w64 ((Int.tmod (w64 p2) 3600) + (w64 (v269 * 3600)))))) (b := false) (by kernel_rfl) hc288) [5, 6, 7, 8, 9, 10, 11, 12, 13, 17, 18, 22, 23, 45, 46, 148, 151] [0, 1, 2, 3] (S7_13 r1 p2 r3 r5 v267 m285 v118 r234 v269 v119) (H7_57 p0 r1 r3 r5) (TI.ra 6 [5, 6, 7, 8, 9, 10, 11, 12, 13, 17, 18, 22, 45, 46, 157] (S7_38 r1 p2 r3 r5 v267 m285 v118 r234 v269 v119) (TI.dn ?_))))))))
      exact hK
    replace hm295 := of_neg hm295 hc286
    rcases Bool.eq_false_or_eq_true (decide ((w64 (r234.1.1 + r234.1.2)) ≥ (w64 ((Int.tmod (w64 p2) 3600) + (w64 (v269 * 3600)))))) with hc289 | hc289
    · replace hm295 := of_pos hm295 hc289
      have hm295 := sj hm295
      subst hm295
      exact TS.rg (TI.ra 2 [5, 6, 7, 8, 9, 10, 11, 12, 13, 17, 18, 22, 23, 45, 46, 140, 141] (S7_4 r1 p2 r3 r5 v267 m285 v118 r234 v269 v119) (TI.o { val := .bool false } (q_conv (e := decide ((w64 (r234.1.1 + r234.1.2)) ≤ (w64 ((Int.tmod (w64 p2) 3600) + (w64 (v269 * 3600)))))) (b := false) (by kernel_rfl) hc286) [5, 6, 7, 8, 9, 10, 11, 12, 13, 17, 18, 22, 23, 45, 46, 142] [0, 1, 2, 3] (S7_26 r1 p2 r3 r5 v267 m285 v118 r234 v269 v119) (H7_57 p0 r1 r3 r5) (TI.ra 8 [5, 6, 7, 8, 9, 10, 11, 12, 13, 17, 18, 22, 23, 45, 46, 148, 149, 150] (S7_0 r1 p2 r3 r5 v267 m285 v118 r234 v269 v119) (TI.o { val := .bool true } (q_conv (e := decide ((w64 (r234.1.1 + r234.1.2)) ≥ (w64 ((Int.tmod (w64 p2) 3600) + (w64 (v269 * 3600)))))) (b := true) (by kernel_rfl) hc289) [5, 6, 7, 8, 9, 10, 11, 12, 13, 17, 18, 22, 23, 45, 46, 148, 151] [0, 1, 2, 3] (S7_15 r1 p2 r3 r5 v267 m285 v118 r234 v269 v119) (H7_57 p0 r1 r3 r5) (TI.ra 6 [5, 6, 7, 8, 9, 10, 11, 12, 13, 17, 18, 22, 45, 46, 157] (S7_12 r1 p2 r3 r5 v267 m285 v118 r234 v269 v119) (TI.dn hK))))))
    replace hm295 := of_neg hm295 hc289
    have hm295 := sj hm295
    subst hm295
    exact TS.rg (TI.ra 2 [5, 6, 7, 8, 9, 10, 11, 12, 13, 17, 18, 22, 23, 45, 46, 140, 141] (S7_4 r1 p2 r3 r5 v267 m285 v118 r234 v269 v119) (TI.o { val := .bool false } (q_conv (e := decide ((w64 (r234.1.1 + r234.1.2)) ≤ (w64 ((Int.tmod (w64 p2) 3600) + (w64 (v269 * 3600)))))) (b := false) (by kernel_rfl) hc286) [5, 6, 7, 8, 9, 10, 11, 12, 13, 17, 18, 22, 23, 45, 46, 142] [0, 1, 2, 3] (S7_26 r1 p2 r3 r5 v267 m285 v118 r234 v269 v119) (H7_57 p0 r1 r3 r5) (TI.ra 8 [5, 6, 7, 8, 9, 10, 11, 12, 13, 17, 18, 22, 23, 45, 46, 148, 149, 150] (S7_0 r1 p2 r3 r5 v267 m285 v118 r234 v269 v119) (TI.o { val := .bool false } (q_conv (e := decide ((w64 (r234.1.1 + r234.1.2)) ≥ (w64 ((Int.tmod (w64 p2) 3600) + (w64 (v269 * 3600)))))) (b := false) (by kernel_rfl) hc289) [5, 6, 7, 8, 9, 10, 11, 12, 13, 17, 18, 22, 23, 45, 46, 148, 151] [0, 1, 2, 3] (S7_13 r1 p2 r3 r5 v267 m285 v118 r234 v269 v119) (H7_57 p0 r1 r3 r5) (TI.ra 6 [5, 6, 7, 8, 9, 10, 11, 12, 13, 17, 18, 22, 45, 46, 157] (S7_38 r1 p2 r3 r5 v267 m285 v118 r234 v269 v119) (TI.dn hK))))))
   cases v268 with
   | true =>
    replace hm296 := of_pos hm296 rfl
    have hm296 := sj hm296
    subst hm296
    exact TS.rg (TI.ra 12 [5, 6, 7, 8, 9, 10, 11, 12, 13, 17, 18, 22, 23, 45, 46] (st 244 [(5, accV 1 r1.length), (6, iv (Int.tmod (w64 p2) 3600)), (7, accV 2 r3.1.length), (8, iv r3.2), (9, accV 3 r5.1.length), (10, iv r5.2), (11, iv v267), (12, .bool true), (13, iv (w64 (v118 + 1))), (17, iv (w64 (r234.1.1 + r234.1.2))), (18, iv (w64 (r234.2.1 + r234.2.2))), (22, iv v269), (23, iv (w64 ((Int.tmod (w64 p2) 3600) + (w64 (v269 * 3600))))), (45, iv (r1.length : Int)), (46, iv v119)]) (TI.dn hK))
   | false =>
    replace hm296 := of_neg hm296 rfl
    rcases Bool.eq_false_or_eq_true ((w64 (r234.1.1 + r234.1.2)) == (w64 (r234.2.1 + r234.2.2))) with hc284 | hc284
    · replace hm296 := of_pos hm296 hc284
      have hm296 := sj hm296
      subst hm296
      exact TS.rg (TI.ra 4 [5, 6, 7, 8, 9, 10, 11, 13, 17, 18, 22, 23, 45, 46, 130, 131, 132] (S7_6 r1 p2 r3 r5 v267 v118 r234 v269 v119) (TI.o { val := .bool true } (q_conv (e := (w64 (r234.1.1 + r234.1.2)) == (w64 (r234.2.1 + r234.2.2))) (b := true) (by kernel_rfl) hc284) [5, 6, 7, 8, 9, 10, 11, 13, 17, 18, 22, 23, 45, 46, 130, 133] [0, 1, 2, 3] (st 244 [(5, accV 1 r1.length), (6, iv (Int.tmod (w64 p2) 3600)), (7, accV 2 r3.1.length), (8, iv r3.2), (9, accV 3 r5.1.length), (10, iv r5.2), (11, iv v267), (13, iv (w64 (v118 + 1))), (17, iv (w64 (r234.1.1 + r234.1.2))), (18, iv (w64 (r234.2.1 + r234.2.2))), (22, iv v269), (23, iv (w64 ((Int.tmod (w64 p2) 3600) + (w64 (v269 * 3600))))), (45, iv (r1.length : Int)), (46, iv v119), (130, .bool false), (133, .bool true)]) (H7_57 p0 r1 r3 r5) (TI.ra 7 [5, 6, 7, 8, 9, 10, 11, 12, 13, 17, 18, 22, 23, 45, 46] (st 244 [(5, accV 1 r1.length), (6, iv (Int.tmod (w64 p2) 3600)), (7, accV 2 r3.1.length), (8, iv r3.2), (9, accV 3 r5.1.length), (10, iv r5.2), (11, iv v267), (12, .bool ((w64 ((Int.tmod (w64 p2) 3600) + (w64 (v269 * 3600)))) == (w64 (r234.1.1 + r234.1.2)))), (13, iv (w64 (v118 + 1))), (17, iv (w64 (r234.1.1 + r234.1.2))), (18, iv (w64 (r234.2.1 + r234.2.2))), (22, iv v269), (23, iv (w64 ((Int.tmod (w64 p2) 3600) + (w64 (v269 * 3600))))), (45, iv (r1.length : Int)), (46, iv v119)]) (TI.dn hK))))
    replace hm296 := of_neg hm296 hc284
    have hm296 := sj hm296
    subst hm296
    exact TS.rg (TI.ra 4 [5, 6, 7, 8, 9, 10, 11, 13, 17, 18, 22, 23, 45, 46, 130, 131, 132] (S7_6 r1 p2 r3 r5 v267 v118 r234 v269 v119) (TI.o { val := .bool false } (q_conv (e := (w64 (r234.1.1 + r234.1.2)) == (w64 (r234.2.1 + r234.2.2))) (b := false) (by kernel_rfl) hc284) [5, 6, 7, 8, 9, 10, 11, 13, 17, 18, 22, 23, 45, 46, 130, 133] [0, 1, 2, 3] (st 244 [(5, accV 1 r1.length), (6, iv (Int.tmod (w64 p2) 3600)), (7, accV 2 r3.1.length), (8, iv r3.2), (9, accV 3 r5.1.length), (10, iv r5.2), (11, iv v267), (13, iv (w64 (v118 + 1))), (17, iv (w64 (r234.1.1 + r234.1.2))), (18, iv (w64 (r234.2.1 + r234.2.2))), (22, iv v269), (23, iv (w64 ((Int.tmod (w64 p2) 3600) + (w64 (v269 * 3600))))), (45, iv (r1.length : Int)), (46, iv v119), (130, .bool false), (133, .bool false)]) (H7_57 p0 r1 r3 r5) (TI.ra 7 [5, 6, 7, 8, 9, 10, 11, 12, 13, 17, 18, 22, 23, 45, 46] (st 244 [(5, accV 1 r1.length), (6, iv (Int.tmod (w64 p2) 3600)), (7, accV 2 r3.1.length), (8, iv r3.2), (9, accV 3 r5.1.length), (10, iv r5.2), (11, iv v267), (12, .bool false), (13, iv (w64 (v118 + 1))), (17, iv (w64 (r234.1.1 + r234.1.2))), (18, iv (w64 (r234.2.1 + r234.2.2))), (22, iv v269), (23, iv (w64 ((Int.tmod (w64 p2) 3600) + (w64 (v269 * 3600))))), (45, iv (r1.length : Int)), (46, iv v119)]) (TI.dn hK))))
 replace hF := of_neg hF hc283
 refine TS.ex 2 (NX.sqX ?_)
 have hF := sj hF
 subst hF
 exact Rd.out (e := .exit 2) (by intro h; cases h) (And.intro rfl (Wk.an [1, 2, 3] (.ac (.ac (.ac (.ac (.nil _))))) [accV 1 r1.length, iv (Int.tmod (w64 p2) 3600), accV 2 r3.1.length, iv r3.2, accV 3 r5.1.length, iv r5.2, iv v267, .bool v268, iv (w64 (v118 + 1)), iv (r1.length : Int), iv v119] (.cons (Rn.acc (nl rfl) rfl) (.fl (.cons (Rn.acc (nl rfl) rfl) (.fl (.cons (Rn.acc (nl rfl) rfl) (.fl (.fl (.fl (.fl (.fl (.fl .nil)))))))))))))
def P7l2 (p0 : List I2) (p2 : Int) (r1 : List I2) (r3 : (List I2) × Int) (r5 : (List Int) × Int) (r234 : I2 × I2) (v118 v119 : Int) (r : Int × Bool) : Post := fun e a h => e = .exit 2 ∧ Wk Try.prog 1 1 a h (st 244 [(5, accV 1 r1.length), (6, iv (Int.tmod (w64 p2) 3600)), (7, accV 2 r3.1.length), (8, iv r3.2), (9, accV 3 r5.1.length), (10, iv r5.2), (11, iv r.1), (12, .bool r.2), (13, iv v118), (45, iv (r1.length : Int)), (46, iv v119)]) (H7_57 p0 r1 r3 r5)
theorem L7l2 (p0 : List I2) (p2 : Int) (r1 : List I2) (r3 : (List I2) × Int) (r5 : (List Int) × Int) (r234 : I2 × I2) (v118 v119 v310 : Int) (v311 : Bool) (v312 : Int) (r : Int × Bool) (hF : F7l2 p0 p2 r1 r3 r5 r234 v118 v119 v310 v311 v312 = some r) : TL Try.prog 1 1 c7.s2.s2.s2.s2.s2.s2.s2.s1.s2.bd.bd.s2.s2.s1.bd.s2.s2.s2.s2.s2.bd.bd (st 244 [(5, accV 1 r1.length), (6, iv (Int.tmod (w64 p2) 3600)), (7, accV 2 r3.1.length), (8, iv r3.2), (9, accV 3 r5.1.length), (10, iv r5.2), (11, iv v310), (12, .bool v311), (13, iv v118), (17, iv (w64 (r234.1.1 + r234.1.2))), (18, iv (w64 (r234.2.1 + r234.2.2))), (22, iv v312), (45, iv (r1.length : Int)), (46, iv v119)]) (H7_57 p0 r1 r3 r5) (P7l2 p0 p2 r1 r3 r5 r234 v118 v119 r) := by
 refine F7l2.partial_correctness p0 p2 r1 r3 r5 r234 v118 v119 (motive := fun v310 v311 v312 r => TL Try.prog 1 1 c7.s2.s2.s2.s2.s2.s2.s2.s1.s2.bd.bd.s2.s2.s1.bd.s2.s2.s2.s2.s2.bd.bd (st 244 [(5, accV 1 r1.length), (6, iv (Int.tmod (w64 p2) 3600)), (7, accV 2 r3.1.length), (8, iv r3.2), (9, accV 3 r5.1.length), (10, iv r5.2), (11, iv v310), (12, .bool v311), (13, iv v118), (17, iv (w64 (r234.1.1 + r234.1.2))), (18, iv (w64 (r234.2.1 + r234.2.2))), (22, iv v312), (45, iv (r1.length : Int)), (46, iv v119)]) (H7_57 p0 r1 r3 r5) (P7l2 p0 p2 r1 r3 r5 r234 v118 v119 r)) ?_ v310 v311 v312 r hF
 clear hF r v310 v311 v312
 intro again ih v310 v311 v312 r hF
 refine TL.round (TS.sq (TS.sq (TS.rg (TI.ra 2 [5, 6, 7, 8, 9, 10, 11, 12, 13, 17, 18, 22, 45, 46, 122] (st 244 [(5, accV 1 r1.length), (6, iv (Int.tmod (w64 p2) 3600)), (7, accV 2 r3.1.length), (8, iv r3.2), (9, accV 3 r5.1.length), (10, iv r5.2), (11, iv v310), (12, .bool v311), (13, iv v118), (17, iv (w64 (r234.1.1 + r234.1.2))), (18, iv (w64 (r234.2.1 + r234.2.2))), (22, iv v312), (45, iv (r1.length : Int)), (46, iv v119), (122, .bool (decide (v312 ≤ 2)))]) (TI.dn (NX.sq ?_))))))
 refine TS.cd (.tmp 122) (decide (v312 ≤ 2)) (fun hc326 => ?_) (fun hc326 => ?_)
 · replace hF := of_pos hF hc326
   refine TS.sk (NX.sq (TS.sq (TS.bk 3 (TS.sq (TS.rg (TI.ra 5 [5, 6, 7, 8, 9, 10, 11, 12, 13, 17, 18, 22, 23, 45, 46] (st 244 [(5, accV 1 r1.length), (6, iv (Int.tmod (w64 p2) 3600)), (7, accV 2 r3.1.length), (8, iv r3.2), (9, accV 3 r5.1.length), (10, iv r5.2), (11, iv v310), (12, .bool v311), (13, iv v118), (17, iv (w64 (r234.1.1 + r234.1.2))), (18, iv (w64 (r234.2.1 + r234.2.2))), (22, iv v312), (23, iv (w64 ((Int.tmod (w64 p2) 3600) + (w64 (v312 * 3600))))), (45, iv (r1.length : Int)), (46, iv v119)]) (TI.dn (NX.sq ?_))))))))
   refine TS.sq ?_
   obtain ⟨m328, hm339, hF⟩ := of_do hF
   have hK : NX Try.prog 1 1 [.sq c7.s2.s2.s2.s2.s2.s2.s2.s1.s2.bd.bd.s2.s2.s1.bd.s2.s2.s2.s2.s2.bd.bd.s2.s1.bd.s2.s2, .bk 3, .sq c7.s2.s2.s2.s2.s2.s2.s2.s1.s2.bd.bd.s2.s2.s1.bd.s2.s2.s2.s2.s2.bd.bd.s2.s2] (Rd Try.prog 1 1 c7.s2.s2.s2.s2.s2.s2.s2.s1.s2.bd.bd.s2.s2.s1.bd.s2.s2.s2.s2.s2.bd.bd (P7l2 p0 p2 r1 r3 r5 r234 v118 v119 r)) .normal (st 244 [(5, accV 1 r1.length), (6, iv (Int.tmod (w64 p2) 3600)), (7, accV 2 r3.1.length), (8, iv r3.2), (9, accV 3 r5.1.length), (10, iv r5.2), (11, iv v310), (12, .bool m328), (13, iv v118), (17, iv (w64 (r234.1.1 + r234.1.2))), (18, iv (w64 (r234.2.1 + r234.2.2))), (22, iv v312), (23, iv (w64 ((Int.tmod (w64 p2) 3600) + (w64 (v312 * 3600))))), (45, iv (r1.length : Int)), (46, iv v119)]) (H7_57 p0 r1 r3 r5) := by
    refine NX.sq (TS.sq ?_)
    obtain ⟨m333, hm338, hF⟩ := of_do hF
    have hK : NX Try.prog 1 1 [.sq c7.s2.s2.s2.s2.s2.s2.s2.s1.s2.bd.bd.s2.s2.s1.bd.s2.s2.s2.s2.s2.bd.bd.s2.s1.bd.s2.s2.s2, .bk 3, .sq c7.s2.s2.s2.s2.s2.s2.s2.s1.s2.bd.bd.s2.s2.s1.bd.s2.s2.s2.s2.s2.bd.bd.s2.s2] (Rd Try.prog 1 1 c7.s2.s2.s2.s2.s2.s2.s2.s1.s2.bd.bd.s2.s2.s1.bd.s2.s2.s2.s2.s2.bd.bd (P7l2 p0 p2 r1 r3 r5 r234 v118 v119 r)) .normal (st 244 [(5, accV 1 r1.length), (6, iv (Int.tmod (w64 p2) 3600)), (7, accV 2 r3.1.length), (8, iv r3.2), (9, accV 3 r5.1.length), (10, iv r5.2), (11, iv v310), (12, .bool m328), (13, iv v118), (17, iv (w64 (r234.1.1 + r234.1.2))), (18, iv (w64 (r234.2.1 + r234.2.2))), (22, iv v312), (45, iv (r1.length : Int)), (46, iv v119), (157, .bool m333)]) (H7_57 p0 r1 r3 r5) := by
     refine NX.sq ?_
     obtain ⟨m336, hm337, hF⟩ := of_do hF
     have hK : NX Try.prog 1 1 [.bk 3, .sq c7.s2.s2.s2.s2.s2.s2.s2.s1.s2.bd.bd.s2.s2.s1.bd.s2.s2.s2.s2.s2.bd.bd.s2.s2] (Rd Try.prog 1 1 c7.s2.s2.s2.s2.s2.s2.s2.s1.s2.bd.bd.s2.s2.s1.bd.s2.s2.s2.s2.s2.bd.bd (P7l2 p0 p2 r1 r3 r5 r234 v118 v119 r)) .normal (st 244 [(5, accV 1 r1.length), (6, iv (Int.tmod (w64 p2) 3600)), (7, accV 2 r3.1.length), (8, iv r3.2), (9, accV 3 r5.1.length), (10, iv r5.2), (11, iv m336), (12, .bool m328), (13, iv v118), (17, iv (w64 (r234.1.1 + r234.1.2))), (18, iv (w64 (r234.2.1 + r234.2.2))), (22, iv v312), (45, iv (r1.length : Int)), (46, iv v119)]) (H7_57 p0 r1 r3 r5) := by
      refine NX.bk (NX.sq (TS.rg (TI.ra 3 [5, 6, 7, 8, 9, 10, 11, 12, 13, 17, 18, 22, 45, 46] (S7_44 r1 p2 r3 r5 m336 m328 v118 r234 v312 v119) (TI.dn ?_))))
      exact Rd.again (a2 := (S7_44 r1 p2 r3 r5 m336 m328 v118 r234 v312 v119)) (h2 := (H7_57 p0 r1 r3 r5)) (Wk.an [1, 2, 3] (.ac (.ac (.ac (.ac (.nil _))))) [accV 1 r1.length, iv (Int.tmod (w64 p2) 3600), accV 2 r3.1.length, iv r3.2, accV 3 r5.1.length, iv r5.2, iv m336, .bool m328, iv v118, iv (w64 (r234.1.1 + r234.1.2)), iv (w64 (r234.2.1 + r234.2.2)), iv (w64 (v312 + 1)), iv (r1.length : Int), iv v119] (.cons (Rn.acc (nl rfl) rfl) (.fl (.cons (Rn.acc (nl rfl) rfl) (.fl (.cons (Rn.acc (nl rfl) rfl) (.fl (.fl (.fl (.fl (.fl (.fl (.fl (.fl (.fl .nil))))))))))))))) (ih m336 m328 (w64 (v312 + 1)) _ hF)
     clear hF
     have hF := hm337
     clear hm337
     refine TS.start ?_
     cases m333 with
     | true =>
      replace hF := of_pos hF rfl
      refine TS.cdT (.tmp 157) (TS.rg (TI.ra 3 [5, 6, 7, 8, 9, 10, 11, 12, 13, 17, 18, 22, 45, 46] (st 244 [(5, accV 1 r1.length), (6, iv (Int.tmod (w64 p2) 3600)), (7, accV 2 r3.1.length), (8, iv r3.2), (9, accV 3 r5.1.length), (10, iv r5.2), (11, iv (w64 (v310 + 1))), (12, .bool m328), (13, iv v118), (17, iv (w64 (r234.1.1 + r234.1.2))), (18, iv (w64 (r234.2.1 + r234.2.2))), (22, iv v312), (45, iv (r1.length : Int)), (46, iv v119)]) (TI.dn ?_)))
      have hF := sj hF
      subst hF
      exact TS.weak (by exact (Wk.an [1, 2, 3] (.ac (.ac (.ac (.ac (.nil _))))) [accV 1 r1.length, iv (Int.tmod (w64 p2) 3600), accV 2 r3.1.length, iv r3.2, accV 3 r5.1.length, iv r5.2, iv (w64 (v310 + 1)), .bool m328, iv v118, iv (w64 (r234.1.1 + r234.1.2)), iv (w64 (r234.2.1 + r234.2.2)), iv v312, iv (r1.length : Int), iv v119] (.cons (Rn.acc (nl rfl) rfl) (.fl (.cons (Rn.acc (nl rfl) rfl) (.fl (.cons (Rn.acc (nl rfl) rfl) (.fl (.fl (.fl (.fl (.fl (.fl (.fl (.fl (.fl .nil)))))))))))))))) hK
     | false =>
      replace hF := of_neg hF rfl
      refine TS.cdF (.tmp 157) (TS.sk ?_)
      have hF := sj hF
      subst hF
      exact TS.weak (by exact (Wk.an [1, 2, 3] (.ac (.ac (.ac (.ac (.nil _))))) [accV 1 r1.length, iv (Int.tmod (w64 p2) 3600), accV 2 r3.1.length, iv r3.2, accV 3 r5.1.length, iv r5.2, iv v310, .bool m328, iv v118, iv (w64 (r234.1.1 + r234.1.2)), iv (w64 (r234.2.1 + r234.2.2)), iv v312, iv (r1.length : Int), iv v119] (.cons (Rn.acc (nl rfl) rfl) (.fl (.cons (Rn.acc (nl rfl) rfl) (.fl (.cons (Rn.acc (nl rfl) rfl) (.fl (.fl (.fl (.fl (.fl (.fl (.fl (.fl (.fl .nil)))))))))))))))) hK
    rcases Bool.eq_false_or_eq_true (decide ((w64 (r234.1.1 + r234.1.2)) ≤ (w64 ((Int.tmod (w64 p2) 3600) + (w64 (v312 * 3600)))))) with hc329 | hc329
    · replace hm338 := of_pos hm338 hc329
      rcases Bool.eq_false_or_eq_true (decide ((w64 ((Int.tmod (w64 p2) 3600) + (w64 (v312 * 3600)))) < (w64 (r234.2.1 + r234.2.2)))) with hc330 | hc330
      · replace hm338 := of_pos hm338 hc330
        have hm338 := sj hm338
        subst hm338
        exact TS.rg (TI.ra 2 [5, 6, 7, 8, 9, 10, 11, 12, 13, 17, 18, 22, 23, 45, 46, 140, 141] (S7_5 r1 p2 r3 r5 v310 m328 v118 r234 v312 v119) (TI.o { val := .bool true } (q_conv (e := decide ((w64 (r234.1.1 + r234.1.2)) ≤ (w64 ((Int.tmod (w64 p2) 3600) + (w64 (v312 * 3600)))))) (b := true) (by kernel_rfl) hc329) [5, 6, 7, 8, 9, 10, 11, 12, 13, 17, 18, 22, 23, 45, 46, 142] [0, 1, 2, 3] (S7_32 r1 p2 r3 r5 v310 m328 v118 r234 v312 v119) (H7_57 p0 r1 r3 r5) (TI.ra 3 [5, 6, 7, 8, 9, 10, 11, 12, 13, 17, 18, 22, 23, 45, 46, 143, 144, 145] (S7_3 r1 p2 r3 r5 v310 m328 v118 r234 v312 v119) (TI.o { val := .bool true } (q_conv (e := decide ((w64 ((Int.tmod (w64 p2) 3600) + (w64 (v312 * 3600)))) < (w64 (r234.2.1 + r234.2.2)))) (b := true) (by kernel_rfl) hc330) [5, 6, 7, 8, 9, 10, 11, 12, 13, 17, 18, 22, 23, 45, 46, 143, 146] [0, 1, 2, 3] (st 244 [(5, accV 1 r1.length), (6, iv (Int.tmod (w64 p2) 3600)), (7, accV 2 r3.1.length), (8, iv r3.2), (9, accV 3 r5.1.length), (10, iv r5.2), (11, iv v310), (12, .bool m328), (13, iv v118), (17, iv (w64 (r234.1.1 + r234.1.2))), (18, iv (w64 (r234.2.1 + r234.2.2))), (22, iv v312), (23, iv (w64 ((Int.tmod (w64 p2) 3600) + (w64 (v312 * 3600))))), (45, iv (r1.length : Int)), (46, iv v119), (143, .bool true), (146, .bool true)]) (H7_57 p0 r1 r3 r5) (TI.ra 11 [5, 6, 7, 8, 9, 10, 11, 12, 13, 17, 18, 22, 45, 46, 157] (st 244 [(5, accV 1 r1.length), (6, iv (Int.tmod (w64 p2) 3600)), (7, accV 2 r3.1.length), (8, iv r3.2), (9, accV 3 r5.1.length), (10, iv r5.2), (11, iv v310), (12, .bool m328), (13, iv v118), (17, iv (w64 (r234.1.1 + r234.1.2))), (18, iv (w64 (r234.2.1 + r234.2.2))), (22, iv v312), (45, iv (r1.length : Int)), (46, iv v119), (157, .bool true)]) (TI.dn hK))))))
      replace hm338 := of_neg hm338 hc330
      rcases Bool.eq_false_or_eq_true (decide ((w64 (r234.1.1 + r234.1.2)) ≥ (w64 ((Int.tmod (w64 p2) 3600) + (w64 (v312 * 3600)))))) with hc331 | hc331
      · replace hm338 := of_pos hm338 hc331
        have hm338 := sj hm338
        subst hm338
        refine TS.rg (TI.ra 2 [5, 6, 7, 8, 9, 10, 11, 12, 13, 17, 18, 22, 23, 45, 46, 140, 141] (S7_5 r1 p2 r3 r5 v310 m328 v118 r234 v312 v119) (TI.o { val := .bool true } (q_conv (e := decide ((w64 (r234.1.1 + r234.1.2)) ≤ (w64 ((Int.tmod (w64 p2) 3600) + (w64 (v312 * 3600)))))) (b := true) (by kernel_rfl) hc329) [5, 6, 7, 8, 9, 10, 11, 12, 13, 17, 18, 22, 23, 45, 46, 142] [0, 1, 2, 3] (S7_32 r1 p2 r3 r5 v310 m328 v118 r234 v312 v119) (H7_57 p0 r1 r3 r5) (TI.ra 3 [5, 6, 7, 8, 9, 10, 11, 12, 13, 17, 18, 22, 23, 45, 46, 143, 144, 145] (S7_3 r1 p2 r3 r5 v310 m328 v118 r234 v312 v119) (TI.o { val := .bool false } (q_conv (e := decide ((w64 ((Int.tmod (w64 p2) 3600) + (w64 (v312 * 3600)))) < (w64 (r234.2.1 + r234.2.2)))) (b := false) (by kernel_rfl) hc330) [5, 6, 7, 8, 9, 10, 11, 12, 13, 17, 18, 22, 23, 45, 46, 143, 146] [0, 1, 2, 3] (S7_24 r1 p2 r3 r5 v310 m328 v118 r234 v312 v119) (H7_57 p0 r1 r3 r5) (TI.ra 4 [5, 6, 7, 8, 9, 10, 11, 12, 13, 17, 18, 22, 23, 45, 46, 148, 149, 150] (S7_2 r1 p2 r3 r5 v310 m328 v118 r234 v312 v119) (TI.o { val := .bool true } (q_conv (e := decide ((w64 (r234.1.1 + r234.1.2)) ≥ (w64 ((Int.tmod (w64 p2) 3600) + (w64 (v312 * 3600)))))) (b := true) (by kernel_rfl) hc331) [5, 6, 7, 8, 9, 10, 11, 12, 13, 17, 18, 22, 23, 45, 46, 148, 151] [0, 1, 2, 3] (S7_25 r1 p2 r3 r5 v310 m328 v118 r234 v312 v119) (H7_57 p0 r1 r3 r5) (TI.ra 6 [5, 6, 7, 8, 9, 10, 11, 12, 13, 17, 18, 22, 45, 46, 157] (S7_16 r1 p2 r3 r5 v310 m328 v118 r234 v312 v119) (TI.dn ?_))))))))
        exact hK
      replace hm338 := of_neg hm338 hc331
      have hm338 := sj hm338
      subst hm338
      refine TS.rg (TI.ra 2 [5, 6, 7, 8, 9, 10, 11, 12, 13, 17, 18, 22, 23, 45, 46, 140, 141] (S7_5 r1 p2 r3 r5 v310 m328 v118 r234 v312 v119) (TI.o { val := .bool true } (q_conv (e := decide ((w64 (r234.1.1 + r234.1.2)) ≤ (w64 ((Int.tmod (w64 p2) 3600) + (w64 (v312 * 3600)))))) (b := true) (by kernel_rfl) hc329) [5, 6, 7, 8, 9, 10, 11, 12, 13, 17, 18, 22, 23, 45, 46, 142] [0, 1, 2, 3] (S7_32 r1 p2 r3 r5 v310 m328 v118 r234 v312 v119) (H7_57 p0 r1 r3 r5) (TI.ra 3 [5, 6, 7, 8, 9, 10, 11, 12, 13, 17, 18, 22, 23, 45, 46, 143, 144, 145] (S7_3 r1 p2 r3 r5 v310 m328 v118 r234 v312 v119) (TI.o { val := .bool false } (q_conv (e := decide ((w64 ((Int.tmod (w64 p2) 3600) + (w64 (v312 * 3600)))) < (w64 (r234.2.1 + r234.2.2)))) (b := false) (by kernel_rfl) hc330) [5, 6, 7, 8, 9, 10, 11, 12, 13, 17, 18, 22, 23, 45, 46, 143, 146] [0, 1, 2, 3] (S7_24 r1 p2 r3 r5 v310 m328 v118 r234 v312 v119) (H7_57 p0 r1 r3 r5) (TI.ra 4 [5, 6, 7, 8, 9, 10, 11, 12, 13, 17, 18, 22, 23, 45, 46, 148, 149, 150] (S7_2 r1 p2 r3 r5 v310 m328 v118 r234 v312 v119) (TI.o { val := .bool false } (q_conv (e := decide ((w64 (r234.1.1 + r234.1.2)) ≥ (w64 ((Int.tmod (w64 p2) 3600) + (w64 (v312 * 3600)))))) (b := false) (by kernel_rfl) hc331) [5, 6, 7, 8, 9, 10, 11, 12, 13, 17, 18, 22, 23, 45, 46, 148, 151] [0, 1, 2, 3] (S7_22 r1 p2 r3 r5 v310 m328 v118 r234 v312 v119) (H7_57 p0 r1 r3 r5) (TI.ra 6 [5, 6, 7, 8, 9, 10, 11, 12, 13, 17, 18, 22, 45, 46, 157] (S7_40 r1 p2 r3 r5 v310 m328 v118 r234 v312 v119) (TI.dn ?_))))))))
      exact hK
    replace hm338 := of_neg hm338 hc329
    rcases Bool.eq_false_or_eq_true (decide ((w64 (r234.1.1 + r234.1.2)) ≥ (w64 ((Int.tmod (w64 p2) 3600) + (w64 (v312 * 3600)))))) with hc332 | hc332
    · replace hm338 := of_pos hm338 hc332
      have hm338 := sj hm338
      subst hm338
      exact TS.rg (TI.ra 2 [5, 6, 7, 8, 9, 10, 11, 12, 13, 17, 18, 22, 23, 45, 46, 140, 141] (S7_5 r1 p2 r3 r5 v310 m328 v118 r234 v312 v119) (TI.o { val := .bool false } (q_conv (e := decide ((w64 (r234.1.1 + r234.1.2)) ≤ (w64 ((Int.tmod (w64 p2) 3600) + (w64 (v312 * 3600)))))) (b := false) (by kernel_rfl) hc329) [5, 6, 7, 8, 9, 10, 11, 12, 13, 17, 18, 22, 23, 45, 46, 142] [0, 1, 2, 3] (S7_31 r1 p2 r3 r5 v310 m328 v118 r234 v312 v119) (H7_57 p0 r1 r3 r5) (TI.ra 8 [5, 6, 7, 8, 9, 10, 11, 12, 13, 17, 18, 22, 23, 45, 46, 148, 149, 150] (S7_2 r1 p2 r3 r5 v310 m328 v118 r234 v312 v119) (TI.o { val := .bool true } (q_conv (e := decide ((w64 (r234.1.1 + r234.1.2)) ≥ (w64 ((Int.tmod (w64 p2) 3600) + (w64 (v312 * 3600)))))) (b := true) (by kernel_rfl) hc332) [5, 6, 7, 8, 9, 10, 11, 12, 13, 17, 18, 22, 23, 45, 46, 148, 151] [0, 1, 2, 3] (S7_25 r1 p2 r3 r5 v310 m328 v118 r234 v312 v119) (H7_57 p0 r1 r3 r5) (TI.ra 6 [5, 6, 7, 8, 9, 10, 11, 12, 13, 17, 18, 22, 45, 46, 157] (S7_16 r1 p2 r3 r5 v310 m328 v118 r234 v312 v119) (TI.dn hK))))))
    replace hm338 := of_neg hm338 hc332
    have hm338 := sj hm338
    subst hm338
    exact TS.rg (TI.ra 2 [5, 6, 7, 8, 9, 10, 11, 12, 13, 17, 18, 22, 23, 45, 46, 140, 141] (S7_5 r1 p2 r3 r5 v310 m328 v118 r234 v312 v119) (TI.o { val := .bool false } (q_conv (e := decide ((w64 (r234.1.1 + r234.1.2)) ≤ (w64 ((Int.tmod (w64 p2) 3600) + (w64 (v312 * 3600)))))) (b := false) (by kernel_rfl) hc329) [5, 6, 7, 8, 9, 10, 11, 12, 13, 17, 18, 22, 23, 45, 46, 142] [0, 1, 2, 3] (S7_31 r1 p2 r3 r5 v310 m328 v118 r234 v312 v119) (H7_57 p0 r1 r3 r5) (TI.ra 8 [5, 6, 7, 8, 9, 10, 11, 12, 13, 17, 18, 22, 23, 45, 46, 148, 149, 150] (S7_2 r1 p2 r3 r5 v310 m328 v118 r234 v312 v119) (TI.o { val := .bool false } (q_conv (e := decide ((w64 (r234.1.1 + r234.1.2)) ≥ (w64 ((Int.tmod (w64 p2) 3600) + (w64 (v312 * 3600)))))) (b := false) (by kernel_rfl) hc332) [5, 6, 7, 8, 9, 10, 11, 12, 13, 17, 18, 22, 23, 45, 46, 148, 151] [0, 1, 2, 3] (S7_22 r1 p2 r3 r5 v310 m328 v118 r234 v312 v119) (H7_57 p0 r1 r3 r5) (TI.ra 6 [5, 6, 7, 8, 9, 10, 11, 12, 13, 17, 18, 22, 45, 46, 157] (S7_40 r1 p2 r3 r5 v310 m328 v118 r234 v312 v119) (TI.dn hK))))))
   cases v311 with
   | true =>
    replace hm339 := of_pos hm339 rfl
    have hm339 := sj hm339
    subst hm339
    exact TS.rg (TI.ra 12 [5, 6, 7, 8, 9, 10, 11, 12, 13, 17, 18, 22, 23, 45, 46] (st 244 [(5, accV 1 r1.length), (6, iv (Int.tmod (w64 p2) 3600)), (7, accV 2 r3.1.length), (8, iv r3.2), (9, accV 3 r5.1.length), (10, iv r5.2), (11, iv v310), (12, .bool true), (13, iv v118), (17, iv (w64 (r234.1.1 + r234.1.2))), (18, iv (w64 (r234.2.1 + r234.2.2))), (22, iv v312), (23, iv (w64 ((Int.tmod (w64 p2) 3600) + (w64 (v312 * 3600))))), (45, iv (r1.length : Int)), (46, iv v119)]) (TI.dn hK))
   | false =>
    replace hm339 := of_neg hm339 rfl
    rcases Bool.eq_false_or_eq_true ((w64 (r234.1.1 + r234.1.2)) == (w64 (r234.2.1 + r234.2.2))) with hc327 | hc327
    · replace hm339 := of_pos hm339 hc327
      have hm339 := sj hm339
      subst hm339
      exact TS.rg (TI.ra 4 [5, 6, 7, 8, 9, 10, 11, 13, 17, 18, 22, 23, 45, 46, 130, 131, 132] (S7_8 r1 p2 r3 r5 v310 v118 r234 v312 v119) (TI.o { val := .bool true } (q_conv (e := (w64 (r234.1.1 + r234.1.2)) == (w64 (r234.2.1 + r234.2.2))) (b := true) (by kernel_rfl) hc327) [5, 6, 7, 8, 9, 10, 11, 13, 17, 18, 22, 23, 45, 46, 130, 133] [0, 1, 2, 3] (st 244 [(5, accV 1 r1.length), (6, iv (Int.tmod (w64 p2) 3600)), (7, accV 2 r3.1.length), (8, iv r3.2), (9, accV 3 r5.1.length), (10, iv r5.2), (11, iv v310), (13, iv v118), (17, iv (w64 (r234.1.1 + r234.1.2))), (18, iv (w64 (r234.2.1 + r234.2.2))), (22, iv v312), (23, iv (w64 ((Int.tmod (w64 p2) 3600) + (w64 (v312 * 3600))))), (45, iv (r1.length : Int)), (46, iv v119), (130, .bool false), (133, .bool true)]) (H7_57 p0 r1 r3 r5) (TI.ra 7 [5, 6, 7, 8, 9, 10, 11, 12, 13, 17, 18, 22, 23, 45, 46] (st 244 [(5, accV 1 r1.length), (6, iv (Int.tmod (w64 p2) 3600)), (7, accV 2 r3.1.length), (8, iv r3.2), (9, accV 3 r5.1.length), (10, iv r5.2), (11, iv v310), (12, .bool ((w64 ((Int.tmod (w64 p2) 3600) + (w64 (v312 * 3600)))) == (w64 (r234.1.1 + r234.1.2)))), (13, iv v118), (17, iv (w64 (r234.1.1 + r234.1.2))), (18, iv (w64 (r234.2.1 + r234.2.2))), (22, iv v312), (23, iv (w64 ((Int.tmod (w64 p2) 3600) + (w64 (v312 * 3600))))), (45, iv (r1.length : Int)), (46, iv v119)]) (TI.dn hK))))
    replace hm339 := of_neg hm339 hc327
    have hm339 := sj hm339
    subst hm339
    exact TS.rg (TI.ra 4 [5, 6, 7, 8, 9, 10, 11, 13, 17, 18, 22, 23, 45, 46, 130, 131, 132] (S7_8 r1 p2 r3 r5 v310 v118 r234 v312 v119) (TI.o { val := .bool false } (q_conv (e := (w64 (r234.1.1 + r234.1.2)) == (w64 (r234.2.1 + r234.2.2))) (b := false) (by kernel_rfl) hc327) [5, 6, 7, 8, 9, 10, 11, 13, 17, 18, 22, 23, 45, 46, 130, 133] [0, 1, 2, 3] (st 244 [(5, accV 1 r1.length), (6, iv (Int.tmod (w64 p2) 3600)), (7, accV 2 r3.1.length), (8, iv r3.2), (9, accV 3 r5.1.length), (10, iv r5.2), (11, iv v310), (13, iv v118), (17, iv (w64 (r234.1.1 + r234.1.2))), (18, iv (w64 (r234.2.1 + r234.2.2))), (22, iv v312), (23, iv (w64 ((Int.tmod (w64 p2) 3600) + (w64 (v312 * 3600))))), (45, iv (r1.length : Int)), (46, iv v119), (130, .bool false), (133, .bool false)]) (H7_57 p0 r1 r3 r5) (TI.ra 7 [5, 6, 7, 8, 9, 10, 11, 12, 13, 17, 18, 22, 23, 45, 46] (st 244 [(5, accV 1 r1.length), (6, iv (Int.tmod (w64 p2) 3600)), (7, accV 2 r3.1.length), (8, iv r3.2), (9, accV 3 r5.1.length), (10, iv r5.2), (11, iv v310), (12, .bool false), (13, iv v118), (17, iv (w64 (r234.1.1 + r234.1.2))), (18, iv (w64 (r234.2.1 + r234.2.2))), (22, iv v312), (23, iv (w64 ((Int.tmod (w64 p2) 3600) + (w64 (v312 * 3600))))), (45, iv (r1.length : Int)), (46, iv v119)]) (TI.dn hK))))
 replace hF := of_neg hF hc326
 refine TS.ex 2 (NX.sqX ?_)
 have hF := sj hF
 subst hF
 exact Rd.out (e := .exit 2) (by intro h; cases h) (And.intro rfl (Wk.an [1, 2, 3] (.ac (.ac (.ac (.ac (.nil _))))) [accV 1 r1.length, iv (Int.tmod (w64 p2) 3600), accV 2 r3.1.length, iv r3.2, accV 3 r5.1.length, iv r5.2, iv v310, .bool v311, iv v118, iv (r1.length : Int), iv v119] (.cons (Rn.acc (nl rfl) rfl) (.fl (.cons (Rn.acc (nl rfl) rfl) (.fl (.cons (Rn.acc (nl rfl) rfl) (.fl (.fl (.fl (.fl (.fl (.fl .nil)))))))))))))
def P7l0 (p0 : List I2) (p2 : Int) (r1 : List I2) (r3 : (List I2) × Int) (r5 : (List Int) × Int) (r : Unit ⊕ (Int × Bool × Int)) : Post := fun e a h => (match r with | .inl q0 => e = .ret ∧ Wk Try.prog 1 1 a h (st 244 [(4, .bool false)]) [ab 81 e81 p0] | .inr q0 => e = .exit 0 ∧ Wk Try.prog 1 1 a h (st 244 [(5, accV 1 r1.length), (6, iv (Int.tmod (w64 p2) 3600)), (7, accV 2 r3.1.length), (8, iv r3.2), (9, accV 3 r5.1.length), (10, iv r5.2), (11, iv q0.1), (12, .bool q0.2.1), (13, iv q0.2.2)]) (H7_57 p0 r1 r3 r5))
theorem L7l0 (p0 : List I2) (p2 : Int) (r1 : List I2) (r3 : (List I2) × Int) (r5 : (List Int) × Int) (v116 : Int) (v117 : Bool) (v118 v119 : Int) (r : Unit ⊕ (Int × Bool × Int)) (hF : F7l0 p0 p2 r1 r3 r5 v116 v117 v118 v119 = some r) : TL Try.prog 1 1 c7.s2.s2.s2.s2.s2.s2.s2.s1.s2.bd.bd (st 244 [(5, accV 1 r1.length), (6, iv (Int.tmod (w64 p2) 3600)), (7, accV 2 r3.1.length), (8, iv r3.2), (9, accV 3 r5.1.length), (10, iv r5.2), (11, iv v116), (12, .bool v117), (13, iv v118), (45, iv (r1.length : Int)), (46, iv v119)]) (H7_57 p0 r1 r3 r5) (P7l0 p0 p2 r1 r3 r5 r) := by
 refine F7l0.partial_correctness p0 p2 r1 r3 r5 (motive := fun v116 v117 v118 v119 r => TL Try.prog 1 1 c7.s2.s2.s2.s2.s2.s2.s2.s1.s2.bd.bd (st 244 [(5, accV 1 r1.length), (6, iv (Int.tmod (w64 p2) 3600)), (7, accV 2 r3.1.length), (8, iv r3.2), (9, accV 3 r5.1.length), (10, iv r5.2), (11, iv v116), (12, .bool v117), (13, iv v118), (45, iv (r1.length : Int)), (46, iv v119)]) (H7_57 p0 r1 r3 r5) (P7l0 p0 p2 r1 r3 r5 r)) ?_ v116 v117 v118 v119 r hF
 clear hF r v116 v117 v118 v119
 intro again ih v116 v117 v118 v119 r hF
 refine TL.round (TS.sq (TS.rg (TI.ra 1 [5, 6, 7, 8, 9, 10, 11, 12, 13, 45, 46, 47] (st 244 [(5, accV 1 r1.length), (6, iv (Int.tmod (w64 p2) 3600)), (7, accV 2 r3.1.length), (8, iv r3.2), (9, accV 3 r5.1.length), (10, iv r5.2), (11, iv v116), (12, .bool v117), (13, iv v118), (45, iv (r1.length : Int)), (46, iv v119), (47, .bool (decide (v119 < (r1.length : Int))))]) (TI.dn (NX.sq (TS.sq ?_))))))
 refine TS.cd (.tmp 47) (decide (v119 < (r1.length : Int))) (fun hc233 => ?_) (fun hc233 => ?_)
 · replace hF := of_pos hF hc233
   refine TS.sk (NX.sq (TS.sq (TS.bk 1 (TS.sq (TS.rg (TI.ra 2 [5, 6, 7, 8, 9, 10, 11, 12, 13, 14, 45, 46] (st 244 [(5, accV 1 r1.length), (6, iv (Int.tmod (w64 p2) 3600)), (7, accV 2 r3.1.length), (8, iv r3.2), (9, accV 3 r5.1.length), (10, iv r5.2), (11, iv v116), (12, .bool v117), (13, iv v118), (14, iv v119), (45, iv (r1.length : Int)), (46, iv v119)]) (TI.dn (NX.sq ?_))))))))
   refine TS.sq ?_
   obtain ⟨r234, h235, hF⟩ := of_do hF
   refine TS.rg (TI.ra 2 [5, 6, 7, 8, 9, 10, 11, 12, 13, 14, 45, 46, 50, 51] (st 244 [(5, accV 1 r1.length), (6, iv (Int.tmod (w64 p2) 3600)), (7, accV 2 r3.1.length), (8, iv r3.2), (9, accV 3 r5.1.length), (10, iv r5.2), (11, iv v116), (12, .bool v117), (13, iv v118), (14, iv v119), (45, iv (r1.length : Int)), (46, iv v119), (50, accV 1 r1.length), (51, iv v119)]) (TI.cp 39 [accV 1 r1.length, iv v119] (.tuple ⟨[ag [iv r234.1.1, iv r234.1.2], ag [iv r234.2.1, iv r234.2.2]]⟩) [] (PureSim.ren (hc := [ab 55 e55 r1]) (fun i => List.getD [(1, 0)] i (0, 0)) (C39 _ _ _ h235) (.ac (.nil _)) (.cons (Rn.accA (i' := 1) (nl rfl) rfl) (.fl .nil)) (.flat (by kernel_rfl)) newflat_nil) (TI.rn 7 [5, 6, 7, 8, 9, 10, 11, 12, 13, 14, 15, 16, 45, 46] [0, 1, 2, 3, 4, 5] (st 244 [(5, accV 1 r1.length), (6, iv (Int.tmod (w64 p2) 3600)), (7, accV 2 r3.1.length), (8, iv r3.2), (9, accV 3 r5.1.length), (10, iv r5.2), (11, iv v116), (12, .bool v117), (13, iv v118), (14, iv v119), (15, pt 4 0), (16, pt 5 0), (45, iv (r1.length : Int)), (46, iv v119)]) (H7_51 p0 r1 r3 r5 r234) (TI.dn (NX.sq (TS.sq ?_))))))
   refine TS.dp [] (fun e he => by cases he) mixed 11 [5, 6, 7, 8, 9, 10, 11, 12, 13, 14, 17, 18, 45, 46] [0, 1, 2, 3] (st 244 [(5, accV 1 r1.length), (6, iv (Int.tmod (w64 p2) 3600)), (7, accV 2 r3.1.length), (8, iv r3.2), (9, accV 3 r5.1.length), (10, iv r5.2), (11, iv v116), (12, .bool v117), (13, iv v118), (14, iv v119), (17, iv (w64 (r234.1.1 + r234.1.2))), (18, iv (w64 (r234.2.1 + r234.2.2))), (45, iv (r1.length : Int)), (46, iv v119)]) (H7_55 p0 r1 r3 r5) ?_ ?_
   · exact QJ.rn (qs (st 244 [(5, accV 1 r1.length), (6, iv (Int.tmod (w64 p2) 3600)), (7, accV 2 r3.1.length), (8, iv r3.2), (9, accV 3 r5.1.length), (10, iv r5.2), (11, iv v116), (12, .bool v117), (13, iv v118), (14, iv v119), (15, pt 4 0), (16, pt 5 0), (17, iv (w64 (r234.1.1 + r234.1.2))), (45, iv (r1.length : Int)), (46, iv v119), (55, pt 4 0), (56, iv r234.1.1), (57, pt 4 1), (58, iv r234.1.2), (59, iv (w64 (r234.1.1 + r234.1.2))), (60, pt 5 0), (61, iv r234.2.1), (62, pt 5 1), (63, iv r234.2.2), (64, iv (w64 (r234.2.1 + r234.2.2)))]) (H7_51 p0 r1 r3 r5 r234) [] []) 11 (QJ.dn ⟨rfl, SJ.la⟩)
   refine TS.sq (TS.sq (TS.rg (TI.ra 3 [5, 6, 7, 8, 9, 10, 11, 12, 13, 14, 17, 18, 45, 46, 67] (st 244 [(5, accV 1 r1.length), (6, iv (Int.tmod (w64 p2) 3600)), (7, accV 2 r3.1.length), (8, iv r3.2), (9, accV 3 r5.1.length), (10, iv r5.2), (11, iv v116), (12, .bool v117), (13, iv v118), (14, iv v119), (17, iv (w64 (r234.1.1 + r234.1.2))), (18, iv (w64 (r234.2.1 + r234.2.2))), (45, iv (r1.length : Int)), (46, iv v119), (67, .bool (decide ((w64 (r234.2.1 + r234.2.2)) ≤ (w64 (r234.1.1 + r234.1.2)))))]) (TI.dn (NX.sq ?_)))))
   refine TS.cd (.tmp 67) (decide ((w64 (r234.2.1 + r234.2.2)) ≤ (w64 (r234.1.1 + r234.1.2)))) (fun hc236 => ?_) (fun hc236 => ?_)
   · replace hF := of_pos hF hc236
     refine TS.sq (TS.sq ?_)
     obtain ⟨m241, hm300, hF⟩ := of_do hF
     have hK : NX Try.prog 1 1 [.sq c7.s2.s2.s2.s2.s2.s2.s2.s1.s2.bd.bd.s2.s2.s1.bd.s2.s2.s2.s1.s2.th.s1.s2, .sq c7.s2.s2.s2.s2.s2.s2.s2.s1.s2.bd.bd.s2.s2.s1.bd.s2.s2.s2.s1.s2.th.s2, .sq c7.s2.s2.s2.s2.s2.s2.s2.s1.s2.bd.bd.s2.s2.s1.bd.s2.s2.s2.s2, .bk 1, .sq c7.s2.s2.s2.s2.s2.s2.s2.s1.s2.bd.bd.s2.s2.s2] (Rd Try.prog 1 1 c7.s2.s2.s2.s2.s2.s2.s2.s1.s2.bd.bd (P7l0 p0 p2 r1 r3 r5 r)) .normal (st 244 [(5, accV 1 r1.length), (6, iv (Int.tmod (w64 p2) 3600)), (7, accV 2 r3.1.length), (8, iv r3.2), (9, accV 3 r5.1.length), (10, iv r5.2), (11, iv v116), (12, .bool v117), (13, iv v118), (17, iv (w64 (r234.1.1 + r234.1.2))), (18, iv (w64 (r234.2.1 + r234.2.2))), (45, iv (r1.length : Int)), (46, iv v119), (79, .bool m241)]) (H7_55 p0 r1 r3 r5) := by
      refine NX.sq ?_
      cases m241 with
      | true =>
       replace hF := of_pos hF rfl
       refine TS.cdT (.tmp 79) (TS.sq (TS.rg (TI.rn 1 [4] [0] (st 244 [(4, .bool false)]) [ab 81 e81 p0, .dead, .dead, .dead, .dead, .dead] (TI.dn (NX.sq (TS.rt (NX.sqR (NX.sqR ?_))))))))
       refine NX.bkR (NX.sqR ?_)
       have hF := sj hF
       subst hF
       exact Rd.out (e := .ret) (by intro h; cases h) (And.intro rfl (Wk.an [] (.ac (.nil _)) [.bool false] (.fl .nil)))
      | false =>
       replace hF := of_neg hF rfl
       refine TS.cdF (.tmp 79) (TS.sk (NX.sq (TS.sq (TS.rg (TI.ra 3 [5, 6, 7, 8, 9, 10, 11, 12, 13, 17, 18, 45, 46] (st 244 [(5, accV 1 r1.length), (6, iv (Int.tmod (w64 p2) 3600)), (7, accV 2 r3.1.length), (8, iv r3.2), (9, accV 3 r5.1.length), (10, iv r5.2), (11, iv v116), (12, .bool v117), (13, iv (w64 (v118 + 1))), (17, iv (w64 (r234.1.1 + r234.1.2))), (18, iv (w64 (r234.2.1 + r234.2.2))), (45, iv (r1.length : Int)), (46, iv v119)]) (TI.dn (NX.sq (TS.sq ?_))))))))
       obtain ⟨o242, h243, hF⟩ := of_do hF
       replace h243 := sj h243
       refine TS.rg (TI.ra 3 [5, 6, 7, 8, 9, 10, 11, 12, 13, 17, 18, 45, 46, 84] (st 244 [(5, accV 1 r1.length), (6, iv (Int.tmod (w64 p2) 3600)), (7, accV 2 r3.1.length), (8, iv r3.2), (9, accV 3 r5.1.length), (10, iv r5.2), (11, iv v116), (12, .bool v117), (13, iv (w64 (v118 + 1))), (17, iv (w64 (r234.1.1 + r234.1.2))), (18, iv (w64 (r234.2.1 + r234.2.2))), (45, iv (r1.length : Int)), (46, iv v119), (84, iv (w64 ((Int.tmod (w64 (r234.1.1 + r234.1.2)) 3600) + 3600)))]) (TI.o { val := iv o242 } (q_convI (e := Int.tmod (w64 ((Int.tmod (w64 (r234.1.1 + r234.1.2)) 3600) + 3600)) 3600) (y := o242) (by kernel_rfl) h243) [5, 6, 7, 8, 9, 10, 11, 12, 13, 17, 18, 45, 46, 85] [0, 1, 2, 3] (st 244 [(5, accV 1 r1.length), (6, iv (Int.tmod (w64 p2) 3600)), (7, accV 2 r3.1.length), (8, iv r3.2), (9, accV 3 r5.1.length), (10, iv r5.2), (11, iv v116), (12, .bool v117), (13, iv (w64 (v118 + 1))), (17, iv (w64 (r234.1.1 + r234.1.2))), (18, iv (w64 (r234.2.1 + r234.2.2))), (45, iv (r1.length : Int)), (46, iv v119), (85, iv o242)]) (H7_55 p0 r1 r3 r5) (TI.ra 1 [5, 6, 7, 8, 9, 10, 11, 12, 13, 17, 18, 19, 45, 46] (st 244 [(5, accV 1 r1.length), (6, iv (Int.tmod (w64 p2) 3600)), (7, accV 2 r3.1.length), (8, iv r3.2), (9, accV 3 r5.1.length), (10, iv r5.2), (11, iv v116), (12, .bool v117), (13, iv (w64 (v118 + 1))), (17, iv (w64 (r234.1.1 + r234.1.2))), (18, iv (w64 (r234.2.1 + r234.2.2))), (19, iv o242), (45, iv (r1.length : Int)), (46, iv v119)]) (TI.dn (NX.sq (TS.sq ?_))))))
       obtain ⟨r244, h245, hF⟩ := of_do hF
       refine TS.rg (TI.ra 2 [5, 6, 7, 8, 9, 10, 11, 12, 13, 17, 18, 45, 46, 87, 88] (st 244 [(5, accV 1 r1.length), (6, iv (Int.tmod (w64 p2) 3600)), (7, accV 2 r3.1.length), (8, iv r3.2), (9, accV 3 r5.1.length), (10, iv r5.2), (11, iv v116), (12, .bool v117), (13, iv (w64 (v118 + 1))), (17, iv (w64 (r234.1.1 + r234.1.2))), (18, iv (w64 (r234.2.1 + r234.2.2))), (45, iv (r1.length : Int)), (46, iv v119), (87, accV 1 r1.length), (88, iv o242)]) (TI.cp 24 [accV 1 r1.length, iv o242] (.tuple ⟨[accV 6 r244.1.length, iv r244.2]⟩) [ab 29 e29 r244.1] (PureSim.ren (hc := [ab 55 e55 r1]) (fun i => List.getD [(1, 0)] i (0, 0)) (C24 _ _ _ h245) (.ac (.nil _)) (.cons (Rn.accA (i' := 1) (nl rfl) rfl) (.fl .nil)) (Rn.tuple' (.cons (Rn.acc (i' := 6) (nl rfl) rfl) (.fl .nil))) (newflat_cons (accB_flat (fun _ => rfl)) newflat_nil)) (TI.rn 5 [5, 6, 7, 8, 9, 10, 11, 12, 13, 17, 18, 20, 21, 45, 46] [0, 1, 2, 3, 6] (st 244 [(5, accV 1 r1.length), (6, iv (Int.tmod (w64 p2) 3600)), (7, accV 2 r3.1.length), (8, iv r3.2), (9, accV 3 r5.1.length), (10, iv r5.2), (11, iv v116), (12, .bool v117), (13, iv (w64 (v118 + 1))), (17, iv (w64 (r234.1.1 + r234.1.2))), (18, iv (w64 (r234.2.1 + r234.2.2))), (20, accV 6 r244.1.length), (21, iv r244.2), (45, iv (r1.length : Int)), (46, iv v119)]) (H7_50 p0 r1 r3 r5 r244) (TI.dn (NX.sq (TS.sq ?_))))))
       obtain ⟨m257, hm299, hF⟩ := of_do hF
       have hK : NX Try.prog 1 1 [.sq c7.s2.s2.s2.s2.s2.s2.s2.s1.s2.bd.bd.s2.s2.s1.bd.s2.s2.s2.s1.s2.th.s2.s2.s2.s2.s2, .sq c7.s2.s2.s2.s2.s2.s2.s2.s1.s2.bd.bd.s2.s2.s1.bd.s2.s2.s2.s2, .bk 1, .sq c7.s2.s2.s2.s2.s2.s2.s2.s1.s2.bd.bd.s2.s2.s2] (Rd Try.prog 1 1 c7.s2.s2.s2.s2.s2.s2.s2.s1.s2.bd.bd (P7l0 p0 p2 r1 r3 r5 r)) .normal (st 244 [(5, accV 1 r1.length), (6, iv (Int.tmod (w64 p2) 3600)), (7, accV 2 r3.1.length), (8, iv r3.2), (9, accV 3 r5.1.length), (10, iv r5.2), (11, iv v116), (12, .bool v117), (13, iv (w64 (v118 + 1))), (17, iv (w64 (r234.1.1 + r234.1.2))), (18, iv (w64 (r234.2.1 + r234.2.2))), (45, iv (r1.length : Int)), (46, iv v119), (120, .bool m257)]) (H7_54 p0 r1 r3 r5) := by
        refine NX.sq ?_
        cases m257 with
        | true =>
         replace hF := of_pos hF rfl
         refine TS.cdT (.tmp 120) (TS.sq (TS.rg (TI.rn 1 [4] [0] (st 244 [(4, .bool false)]) [ab 81 e81 p0, .dead, .dead, .dead, .dead, .dead, .dead] (TI.dn (NX.sq (TS.rt (NX.sqR (NX.bkR ?_))))))))
         refine NX.sqR ?_
         have hF := sj hF
         subst hF
         exact Rd.out (e := .ret) (by intro h; cases h) (And.intro rfl (Wk.an [] (.ac (.nil _)) [.bool false] (.fl .nil)))
        | false =>
         replace hF := of_neg hF rfl
         refine TS.cdF (.tmp 120) (TS.sk (NX.sq (TS.sq (TS.rg (TI.ra 1 [5, 6, 7, 8, 9, 10, 11, 12, 13, 17, 18, 22, 45, 46] (S7_45 r1 p2 r3 r5 v116 v117 v118 r234 v119) (TI.dn (NX.sq (TS.bk 2 ?_))))))))
         obtain ⟨r297, h298, hF⟩ := of_do hF
         refine TS.lp (TL.weak (a2 := (S7_45 r1 p2 r3 r5 v116 v117 v118 r234 v119)) (h2 := (H7_57 p0 r1 r3 r5)) (Wk.an [1, 2, 3] (.ac (.ac (.ac (.ac (.nil _))))) [accV 1 r1.length, iv (Int.tmod (w64 p2) 3600), accV 2 r3.1.length, iv r3.2, accV 3 r5.1.length, iv r5.2, iv v116, .bool v117, iv (w64 (v118 + 1)), iv (w64 (r234.1.1 + r234.1.2)), iv (w64 (r234.2.1 + r234.2.2)), iv (-2), iv (r1.length : Int), iv v119] (.cons (Rn.acc (nl rfl) rfl) (.fl (.cons (Rn.acc (nl rfl) rfl) (.fl (.cons (Rn.acc (nl rfl) rfl) (.fl (.fl (.fl (.fl (.fl (.fl (.fl (.fl (.fl .nil))))))))))))))) (TL.post (L7l1 p0 p2 r1 r3 r5 r234 v118 v119 v116 v117 (-2) r297 h298) ?_))
         rintro e a1 h1 hp
         obtain ⟨rfl, hw⟩ := hp
         refine ⟨(st 244 [(5, accV 1 r1.length), (6, iv (Int.tmod (w64 p2) 3600)), (7, accV 2 r3.1.length), (8, iv r3.2), (9, accV 3 r5.1.length), (10, iv r5.2), (11, iv r297.1), (12, .bool r297.2), (13, iv (w64 (v118 + 1))), (45, iv (r1.length : Int)), (46, iv v119)]), (H7_57 p0 r1 r3 r5), (NX.bkX (NX.bk (NX.sq (TS.rg (TI.ra 2 [5, 6, 7, 8, 9, 10, 11, 12, 13, 45, 46] (S7_48 r1 p2 r3 r5 r297 v118 v119) (TI.dn ?_)))))), hw⟩
         exact Rd.again (a2 := (S7_48 r1 p2 r3 r5 r297 v118 v119)) (h2 := (H7_57 p0 r1 r3 r5)) (Wk.an [1, 2, 3] (.ac (.ac (.ac (.ac (.nil _))))) [accV 1 r1.length, iv (Int.tmod (w64 p2) 3600), accV 2 r3.1.length, iv r3.2, accV 3 r5.1.length, iv r5.2, iv r297.1, .bool r297.2, iv (w64 (v118 + 1)), iv (r1.length : Int), iv (w64 (v119 + 1))] (.cons (Rn.acc (nl rfl) rfl) (.fl (.cons (Rn.acc (nl rfl) rfl) (.fl (.cons (Rn.acc (nl rfl) rfl) (.fl (.fl (.fl (.fl (.fl (.fl .nil)))))))))))) (ih r297.1 r297.2 (w64 (v118 + 1)) (w64 (v119 + 1)) _ hF)
       rcases Bool.eq_false_or_eq_true ((w64 (r234.1.1 + r234.1.2)) == (w64 (r234.2.1 + r234.2.2))) with hc246 | hc246
       · replace hm299 := of_pos hm299 hc246
         rcases Bool.eq_false_or_eq_true (r244.2 != 16) with hc247 | hc247
         · replace hm299 := of_pos hm299 hc247
           have hm299 := sj hm299
           subst hm299
           exact TS.rg (TI.ra 2 [5, 6, 7, 8, 9, 10, 11, 12, 13, 17, 18, 20, 21, 45, 46, 92, 93] (S7_10 r1 p2 r3 r5 v116 v117 v118 r234 r244 v119) (TI.o { val := .bool true } (q_conv (e := (w64 (r234.1.1 + r234.1.2)) == (w64 (r234.2.1 + r234.2.2))) (b := true) (by kernel_rfl) hc246) [5, 6, 7, 8, 9, 10, 11, 12, 13, 17, 18, 20, 21, 45, 46, 94] [0, 1, 2, 3, 6] (S7_35 r1 p2 r3 r5 v116 v117 v118 r234 r244 v119) (H7_50 p0 r1 r3 r5 r244) (TI.ra 2 [5, 6, 7, 8, 9, 10, 11, 12, 13, 17, 18, 20, 21, 45, 46, 95, 96] (S7_33 r1 p2 r3 r5 v116 v117 v118 r234 r244 v119) (TI.o { val := .bool true } (q_conv (e := r244.2 != 16) (b := true) (by kernel_rfl) hc247) [5, 6, 7, 8, 9, 10, 11, 12, 13, 17, 18, 20, 21, 45, 46, 95, 97] [0, 1, 2, 3, 6] (st 244 [(5, accV 1 r1.length), (6, iv (Int.tmod (w64 p2) 3600)), (7, accV 2 r3.1.length), (8, iv r3.2), (9, accV 3 r5.1.length), (10, iv r5.2), (11, iv v116), (12, .bool v117), (13, iv (w64 (v118 + 1))), (17, iv (w64 (r234.1.1 + r234.1.2))), (18, iv (w64 (r234.2.1 + r234.2.2))), (20, accV 6 r244.1.length), (21, iv r244.2), (45, iv (r1.length : Int)), (46, iv v119), (95, .bool true), (97, .bool true)]) (H7_50 p0 r1 r3 r5 r244) (TI.rn 23 [5, 6, 7, 8, 9, 10, 11, 12, 13, 17, 18, 45, 46, 120] [0, 1, 2, 3] (S7_42 r1 p2 r3 r5 v116 v117 v118 r234 v119) (H7_54 p0 r1 r3 r5) (TI.dn hK))))))
         replace hm299 := of_neg hm299 hc247
         rcases Bool.eq_false_or_eq_true (decide ((w64 (r234.1.1 + r234.1.2)) > (w64 (r234.2.1 + r234.2.2)))) with hc248 | hc248
         · replace hm299 := of_pos hm299 hc248
           rcases Bool.eq_false_or_eq_true (r244.2 != 0) with hc249 | hc249
           · replace hm299 := of_pos hm299 hc249
             rcases Bool.eq_false_or_eq_true (r244.2 == 0) with hc250 | hc250
             · replace hm299 := of_pos hm299 hc250
               have hm299 := sj hm299
               subst hm299
               refine TS.rg (TI.ra 2 [5, 6, 7, 8, 9, 10, 11, 12, 13, 17, 18, 20, 21, 45, 46, 92, 93] (S7_10 r1 p2 r3 r5 v116 v117 v118 r234 r244 v119) (TI.o { val := .bool true } (q_conv (e := (w64 (r234.1.1 + r234.1.2)) == (w64 (r234.2.1 + r234.2.2))) (b := true) (by kernel_rfl) hc246) [5, 6, 7, 8, 9, 10, 11, 12, 13, 17, 18, 20, 21, 45, 46, 94] [0, 1, 2, 3, 6] (S7_35 r1 p2 r3 r5 v116 v117 v118 r234 r244 v119) (H7_50 p0 r1 r3 r5 r244) (TI.ra 2 [5, 6, 7, 8, 9, 10, 11, 12, 13, 17, 18, 20, 21, 45, 46, 95, 96] (S7_33 r1 p2 r3 r5 v116 v117 v118 r234 r244 v119) (TI.o { val := .bool false } (q_conv (e := r244.2 != 16) (b := false) (by kernel_rfl) hc247) [5, 6, 7, 8, 9, 10, 11, 12, 13, 17, 18, 20, 21, 45, 46, 95, 97] [0, 1, 2, 3, 6] (S7_30 r1 p2 r3 r5 v116 v117 v118 r234 r244 v119) (H7_50 p0 r1 r3 r5 r244) (TI.ra 4 [5, 6, 7, 8, 9, 10, 11, 12, 13, 17, 18, 20, 21, 45, 46, 99, 100, 101] (S7_7 r1 p2 r3 r5 v116 v117 v118 r234 r244 v119) (TI.o { val := .bool true } (q_conv (e := decide ((w64 (r234.1.1 + r234.1.2)) > (w64 (r234.2.1 + r234.2.2)))) (b := true) (by kernel_rfl) hc248) [5, 6, 7, 8, 9, 10, 11, 12, 13, 17, 18, 20, 21, 45, 46, 99, 102] [0, 1, 2, 3, 6] (S7_29 r1 p2 r3 r5 v116 v117 v118 r234 r244 v119) (H7_50 p0 r1 r3 r5 r244) (TI.ra 2 [5, 6, 7, 8, 9, 10, 11, 12, 13, 17, 18, 20, 21, 45, 46, 99, 103, 104] (S7_23 r1 p2 r3 r5 v116 v117 v118 r234 r244 v119) (TI.o { val := .bool true } (q_conv (e := r244.2 != 0) (b := true) (by kernel_rfl) hc249) [5, 6, 7, 8, 9, 10, 11, 12, 13, 17, 18, 20, 21, 45, 46, 99, 103, 105] [0, 1, 2, 3, 6] (S7_21 r1 p2 r3 r5 v116 v117 v118 r234 r244 v119) (H7_50 p0 r1 r3 r5 r244) ?_))))))))
               exact TI.ra 2 [5, 6, 7, 8, 9, 10, 11, 12, 13, 17, 18, 20, 21, 45, 46, 99, 103, 106, 107] (S7_11 r1 p2 r3 r5 v116 v117 v118 r234 r244 v119) (TI.o { val := .bool false } (q_conv (e := r244.2 != 16) (b := false) (by kernel_rfl) hc247) [5, 6, 7, 8, 9, 10, 11, 12, 13, 17, 18, 20, 21, 45, 46, 99, 103, 106, 108] [0, 1, 2, 3, 6] (S7_9 r1 p2 r3 r5 v116 v117 v118 r234 r244 v119) (H7_50 p0 r1 r3 r5 r244) (TI.ra 3 [5, 6, 7, 8, 9, 10, 11, 12, 13, 17, 18, 20, 45, 46, 99, 103, 110, 111] (S7_19 r1 p2 r3 r5 v116 v117 v118 r234 r244 v119) (TI.o { val := .bool true } (q_conv (e := r244.2 == 0) (b := true) (by kernel_rfl) hc250) [5, 6, 7, 8, 9, 10, 11, 12, 13, 17, 18, 20, 45, 46, 99, 103, 110, 112] [0, 1, 2, 3, 6] (S7_18 r1 p2 r3 r5 v116 v117 v118 r234 r244 v119) (H7_50 p0 r1 r3 r5 r244) (TI.rn 8 [5, 6, 7, 8, 9, 10, 11, 12, 13, 17, 18, 45, 46, 120] [0, 1, 2, 3] (S7_36 r1 p2 r3 r5 v116 v117 v118 r234 v119 r244) (H7_54 p0 r1 r3 r5) (TI.dn hK)))))
             replace hm299 := of_neg hm299 hc250
             have hm299 := sj hm299
             subst hm299
             refine TS.rg (TI.ra 2 [5, 6, 7, 8, 9, 10, 11, 12, 13, 17, 18, 20, 21, 45, 46, 92, 93] (S7_10 r1 p2 r3 r5 v116 v117 v118 r234 r244 v119) (TI.o { val := .bool true } (q_conv (e := (w64 (r234.1.1 + r234.1.2)) == (w64 (r234.2.1 + r234.2.2))) (b := true) (by kernel_rfl) hc246) [5, 6, 7, 8, 9, 10, 11, 12, 13, 17, 18, 20, 21, 45, 46, 94] [0, 1, 2, 3, 6] (S7_35 r1 p2 r3 r5 v116 v117 v118 r234 r244 v119) (H7_50 p0 r1 r3 r5 r244) (TI.ra 2 [5, 6, 7, 8, 9, 10, 11, 12, 13, 17, 18, 20, 21, 45, 46, 95, 96] (S7_33 r1 p2 r3 r5 v116 v117 v118 r234 r244 v119) (TI.o { val := .bool false } (q_conv (e := r244.2 != 16) (b := false) (by kernel_rfl) hc247) [5, 6, 7, 8, 9, 10, 11, 12, 13, 17, 18, 20, 21, 45, 46, 95, 97] [0, 1, 2, 3, 6] (S7_30 r1 p2 r3 r5 v116 v117 v118 r234 r244 v119) (H7_50 p0 r1 r3 r5 r244) (TI.ra 4 [5, 6, 7, 8, 9, 10, 11, 12, 13, 17, 18, 20, 21, 45, 46, 99, 100, 101] (S7_7 r1 p2 r3 r5 v116 v117 v118 r234 r244 v119) (TI.o { val := .bool true } (q_conv (e := decide ((w64 (r234.1.1 + r234.1.2)) > (w64 (r234.2.1 + r234.2.2)))) (b := true) (by kernel_rfl) hc248) [5, 6, 7, 8, 9, 10, 11, 12, 13, 17, 18, 20, 21, 45, 46, 99, 102] [0, 1, 2, 3, 6] (S7_29 r1 p2 r3 r5 v116 v117 v118 r234 r244 v119) (H7_50 p0 r1 r3 r5 r244) (TI.ra 2 [5, 6, 7, 8, 9, 10, 11, 12, 13, 17, 18, 20, 21, 45, 46, 99, 103, 104] (S7_23 r1 p2 r3 r5 v116 v117 v118 r234 r244 v119) (TI.o { val := .bool true } (q_conv (e := r244.2 != 0) (b := true) (by kernel_rfl) hc249) [5, 6, 7, 8, 9, 10, 11, 12, 13, 17, 18, 20, 21, 45, 46, 99, 103, 105] [0, 1, 2, 3, 6] (S7_21 r1 p2 r3 r5 v116 v117 v118 r234 r244 v119) (H7_50 p0 r1 r3 r5 r244) ?_))))))))
             exact TI.ra 2 [5, 6, 7, 8, 9, 10, 11, 12, 13, 17, 18, 20, 21, 45, 46, 99, 103, 106, 107] (S7_11 r1 p2 r3 r5 v116 v117 v118 r234 r244 v119) (TI.o { val := .bool false } (q_conv (e := r244.2 != 16) (b := false) (by kernel_rfl) hc247) [5, 6, 7, 8, 9, 10, 11, 12, 13, 17, 18, 20, 21, 45, 46, 99, 103, 106, 108] [0, 1, 2, 3, 6] (S7_9 r1 p2 r3 r5 v116 v117 v118 r234 r244 v119) (H7_50 p0 r1 r3 r5 r244) (TI.ra 3 [5, 6, 7, 8, 9, 10, 11, 12, 13, 17, 18, 20, 45, 46, 99, 103, 110, 111] (S7_19 r1 p2 r3 r5 v116 v117 v118 r234 r244 v119) (TI.o { val := .bool false } (q_conv (e := r244.2 == 0) (b := false) (by kernel_rfl) hc250) [5, 6, 7, 8, 9, 10, 11, 12, 13, 17, 18, 20, 45, 46, 99, 103, 110, 112] [0, 1, 2, 3, 6] (S7_17 r1 p2 r3 r5 v116 v117 v118 r234 r244 v119) (H7_50 p0 r1 r3 r5 r244) (TI.rn 8 [5, 6, 7, 8, 9, 10, 11, 12, 13, 17, 18, 45, 46, 120] [0, 1, 2, 3] (S7_41 r1 p2 r3 r5 v116 v117 v118 r234 v119) (H7_54 p0 r1 r3 r5) (TI.dn hK)))))
           replace hm299 := of_neg hm299 hc249
           rcases Bool.eq_false_or_eq_true (r244.2 == 0) with hc251 | hc251
           · replace hm299 := of_pos hm299 hc251
             have hm299 := sj hm299
             subst hm299
             refine TS.rg (TI.ra 2 [5, 6, 7, 8, 9, 10, 11, 12, 13, 17, 18, 20, 21, 45, 46, 92, 93] (S7_10 r1 p2 r3 r5 v116 v117 v118 r234 r244 v119) (TI.o { val := .bool true } (q_conv (e := (w64 (r234.1.1 + r234.1.2)) == (w64 (r234.2.1 + r234.2.2))) (b := true) (by kernel_rfl) hc246) [5, 6, 7, 8, 9, 10, 11, 12, 13, 17, 18, 20, 21, 45, 46, 94] [0, 1, 2, 3, 6] (S7_35 r1 p2 r3 r5 v116 v117 v118 r234 r244 v119) (H7_50 p0 r1 r3 r5 r244) (TI.ra 2 [5, 6, 7, 8, 9, 10, 11, 12, 13, 17, 18, 20, 21, 45, 46, 95, 96] (S7_33 r1 p2 r3 r5 v116 v117 v118 r234 r244 v119) (TI.o { val := .bool false } (q_conv (e := r244.2 != 16) (b := false) (by kernel_rfl) hc247) [5, 6, 7, 8, 9, 10, 11, 12, 13, 17, 18, 20, 21, 45, 46, 95, 97] [0, 1, 2, 3, 6] (S7_30 r1 p2 r3 r5 v116 v117 v118 r234 r244 v119) (H7_50 p0 r1 r3 r5 r244) (TI.ra 4 [5, 6, 7, 8, 9, 10, 11, 12, 13, 17, 18, 20, 21, 45, 46, 99, 100, 101] (S7_7 r1 p2 r3 r5 v116 v117 v118 r234 r244 v119) (TI.o { val := .bool true } (q_conv (e := decide ((w64 (r234.1.1 + r234.1.2)) > (w64 (r234.2.1 + r234.2.2)))) (b := true) (by kernel_rfl) hc248) [5, 6, 7, 8, 9, 10, 11, 12, 13, 17, 18, 20, 21, 45, 46, 99, 102] [0, 1, 2, 3, 6] (S7_29 r1 p2 r3 r5 v116 v117 v118 r234 r244 v119) (H7_50 p0 r1 r3 r5 r244) (TI.ra 2 [5, 6, 7, 8, 9, 10, 11, 12, 13, 17, 18, 20, 21, 45, 46, 99, 103, 104] (S7_23 r1 p2 r3 r5 v116 v117 v118 r234 r244 v119) (TI.o { val := .bool false } (q_conv (e := r244.2 != 0) (b := false) (by kernel_rfl) hc249) [5, 6, 7, 8, 9, 10, 11, 12, 13, 17, 18, 20, 21, 45, 46, 99, 103, 105] [0, 1, 2, 3, 6] (S7_20 r1 p2 r3 r5 v116 v117 v118 r234 r244 v119) (H7_50 p0 r1 r3 r5 r244) ?_))))))))
             exact TI.ra 6 [5, 6, 7, 8, 9, 10, 11, 12, 13, 17, 18, 20, 45, 46, 99, 103, 110, 111] (S7_19 r1 p2 r3 r5 v116 v117 v118 r234 r244 v119) (TI.o { val := .bool true } (q_conv (e := r244.2 == 0) (b := true) (by kernel_rfl) hc251) [5, 6, 7, 8, 9, 10, 11, 12, 13, 17, 18, 20, 45, 46, 99, 103, 110, 112] [0, 1, 2, 3, 6] (S7_18 r1 p2 r3 r5 v116 v117 v118 r234 r244 v119) (H7_50 p0 r1 r3 r5 r244) (TI.rn 8 [5, 6, 7, 8, 9, 10, 11, 12, 13, 17, 18, 45, 46, 120] [0, 1, 2, 3] (S7_36 r1 p2 r3 r5 v116 v117 v118 r234 v119 r244) (H7_54 p0 r1 r3 r5) (TI.dn hK)))
           replace hm299 := of_neg hm299 hc251
           have hm299 := sj hm299
           subst hm299
           refine TS.rg (TI.ra 2 [5, 6, 7, 8, 9, 10, 11, 12, 13, 17, 18, 20, 21, 45, 46, 92, 93] (S7_10 r1 p2 r3 r5 v116 v117 v118 r234 r244 v119) (TI.o { val := .bool true } (q_conv (e := (w64 (r234.1.1 + r234.1.2)) == (w64 (r234.2.1 + r234.2.2))) (b := true) (by kernel_rfl) hc246) [5, 6, 7, 8, 9, 10, 11, 12, 13, 17, 18, 20, 21, 45, 46, 94] [0, 1, 2, 3, 6] (S7_35 r1 p2 r3 r5 v116 v117 v118 r234 r244 v119) (H7_50 p0 r1 r3 r5 r244) (TI.ra 2 [5, 6, 7, 8, 9, 10, 11, 12, 13, 17, 18, 20, 21, 45, 46, 95, 96] (S7_33 r1 p2 r3 r5 v116 v117 v118 r234 r244 v119) (TI.o { val := .bool false } (q_conv (e := r244.2 != 16) (b := false) (by kernel_rfl) hc247) [5, 6, 7, 8, 9, 10, 11, 12, 13, 17, 18, 20, 21, 45, 46, 95, 97] [0, 1, 2, 3, 6] (S7_30 r1 p2 r3 r5 v116 v117 v118 r234 r244 v119) (H7_50 p0 r1 r3 r5 r244) (TI.ra 4 [5, 6, 7, 8, 9, 10, 11, 12, 13, 17, 18, 20, 21, 45, 46, 99, 100, 101] (S7_7 r1 p2 r3 r5 v116 v117 v118 r234 r244 v119) (TI.o { val := .bool true } (q_conv (e := decide ((w64 (r234.1.1 + r234.1.2)) > (w64 (r234.2.1 + r234.2.2)))) (b := true) (by kernel_rfl) hc248) [5, 6, 7, 8, 9, 10, 11, 12, 13, 17, 18, 20, 21, 45, 46, 99, 102] [0, 1, 2, 3, 6] (S7_29 r1 p2 r3 r5 v116 v117 v118 r234 r244 v119) (H7_50 p0 r1 r3 r5 r244) (TI.ra 2 [5, 6, 7, 8, 9, 10, 11, 12, 13, 17, 18, 20, 21, 45, 46, 99, 103, 104] (S7_23 r1 p2 r3 r5 v116 v117 v118 r234 r244 v119) (TI.o { val := .bool false } (q_conv (e := r244.2 != 0) (b := false) (by kernel_rfl) hc249) [5, 6, 7, 8, 9, 10, 11, 12, 13, 17, 18, 20, 21, 45, 46, 99, 103, 105] [0, 1, 2, 3, 6] (S7_20 r1 p2 r3 r5 v116 v117 v118 r234 r244 v119) (H7_50 p0 r1 r3 r5 r244) ?_))))))))
           exact TI.ra 6 [5, 6, 7, 8, 9, 10, 11, 12, 13, 17, 18, 20, 45, 46, 99, 103, 110, 111] (S7_19 r1 p2 r3 r5 v116 v117 v118 r234 r244 v119) (TI.o { val := .bool false } (q_conv (e := r244.2 == 0) (b := false) (by kernel_rfl) hc251) [5, 6, 7, 8, 9, 10, 11, 12, 13, 17, 18, 20, 45, 46, 99, 103, 110, 112] [0, 1, 2, 3, 6] (S7_17 r1 p2 r3 r5 v116 v117 v118 r234 r244 v119) (H7_50 p0 r1 r3 r5 r244) (TI.rn 8 [5, 6, 7, 8, 9, 10, 11, 12, 13, 17, 18, 45, 46, 120] [0, 1, 2, 3] (S7_41 r1 p2 r3 r5 v116 v117 v118 r234 v119) (H7_54 p0 r1 r3 r5) (TI.dn hK)))
         replace hm299 := of_neg hm299 hc248
         have hm299 := sj hm299
         subst hm299
         refine TS.rg (TI.ra 2 [5, 6, 7, 8, 9, 10, 11, 12, 13, 17, 18, 20, 21, 45, 46, 92, 93] (S7_10 r1 p2 r3 r5 v116 v117 v118 r234 r244 v119) (TI.o { val := .bool true } (q_conv (e := (w64 (r234.1.1 + r234.1.2)) == (w64 (r234.2.1 + r234.2.2))) (b := true) (by kernel_rfl) hc246) [5, 6, 7, 8, 9, 10, 11, 12, 13, 17, 18, 20, 21, 45, 46, 94] [0, 1, 2, 3, 6] (S7_35 r1 p2 r3 r5 v116 v117 v118 r234 r244 v119) (H7_50 p0 r1 r3 r5 r244) (TI.ra 2 [5, 6, 7, 8, 9, 10, 11, 12, 13, 17, 18, 20, 21, 45, 46, 95, 96] (S7_33 r1 p2 r3 r5 v116 v117 v118 r234 r244 v119) (TI.o { val := .bool false } (q_conv (e := r244.2 != 16) (b := false) (by kernel_rfl) hc247) [5, 6, 7, 8, 9, 10, 11, 12, 13, 17, 18, 20, 21, 45, 46, 95, 97] [0, 1, 2, 3, 6] (S7_30 r1 p2 r3 r5 v116 v117 v118 r234 r244 v119) (H7_50 p0 r1 r3 r5 r244) (TI.ra 4 [5, 6, 7, 8, 9, 10, 11, 12, 13, 17, 18, 20, 21, 45, 46, 99, 100, 101] (S7_7 r1 p2 r3 r5 v116 v117 v118 r234 r244 v119) (TI.o { val := .bool false } (q_conv (e := decide ((w64 (r234.1.1 + r234.1.2)) > (w64 (r234.2.1 + r234.2.2)))) (b := false) (by kernel_rfl) hc248) [5, 6, 7, 8, 9, 10, 11, 12, 13, 17, 18, 20, 21, 45, 46, 99, 102] [0, 1, 2, 3, 6] (S7_28 r1 p2 r3 r5 v116 v117 v118 r234 r244 v119) (H7_50 p0 r1 r3 r5 r244) (TI.rn 18 [5, 6, 7, 8, 9, 10, 11, 12, 13, 17, 18, 45, 46, 120] [0, 1, 2, 3] (S7_41 r1 p2 r3 r5 v116 v117 v118 r234 v119) (H7_54 p0 r1 r3 r5) (TI.dn ?_))))))))
         exact hK
       replace hm299 := of_neg hm299 hc246
       rcases Bool.eq_false_or_eq_true (decide ((w64 (r234.1.1 + r234.1.2)) > (w64 (r234.2.1 + r234.2.2)))) with hc252 | hc252
       · replace hm299 := of_pos hm299 hc252
         rcases Bool.eq_false_or_eq_true (r244.2 != 0) with hc253 | hc253
         · replace hm299 := of_pos hm299 hc253
           rcases Bool.eq_false_or_eq_true (r244.2 != 16) with hc254 | hc254
           · replace hm299 := of_pos hm299 hc254
             have hm299 := sj hm299
             subst hm299
             refine TS.rg (TI.ra 2 [5, 6, 7, 8, 9, 10, 11, 12, 13, 17, 18, 20, 21, 45, 46, 92, 93] (S7_10 r1 p2 r3 r5 v116 v117 v118 r234 r244 v119) (TI.o { val := .bool false } (q_conv (e := (w64 (r234.1.1 + r234.1.2)) == (w64 (r234.2.1 + r234.2.2))) (b := false) (by kernel_rfl) hc246) [5, 6, 7, 8, 9, 10, 11, 12, 13, 17, 18, 20, 21, 45, 46, 94] [0, 1, 2, 3, 6] (S7_34 r1 p2 r3 r5 v116 v117 v118 r234 r244 v119) (H7_50 p0 r1 r3 r5 r244) (TI.ra 7 [5, 6, 7, 8, 9, 10, 11, 12, 13, 17, 18, 20, 21, 45, 46, 99, 100, 101] (S7_7 r1 p2 r3 r5 v116 v117 v118 r234 r244 v119) (TI.o { val := .bool true } (q_conv (e := decide ((w64 (r234.1.1 + r234.1.2)) > (w64 (r234.2.1 + r234.2.2)))) (b := true) (by kernel_rfl) hc252) [5, 6, 7, 8, 9, 10, 11, 12, 13, 17, 18, 20, 21, 45, 46, 99, 102] [0, 1, 2, 3, 6] (S7_29 r1 p2 r3 r5 v116 v117 v118 r234 r244 v119) (H7_50 p0 r1 r3 r5 r244) (TI.ra 2 [5, 6, 7, 8, 9, 10, 11, 12, 13, 17, 18, 20, 21, 45, 46, 99, 103, 104] (S7_23 r1 p2 r3 r5 v116 v117 v118 r234 r244 v119) (TI.o { val := .bool true } (q_conv (e := r244.2 != 0) (b := true) (by kernel_rfl) hc253) [5, 6, 7, 8, 9, 10, 11, 12, 13, 17, 18, 20, 21, 45, 46, 99, 103, 105] [0, 1, 2, 3, 6] (S7_21 r1 p2 r3 r5 v116 v117 v118 r234 r244 v119) (H7_50 p0 r1 r3 r5 r244) (TI.ra 2 [5, 6, 7, 8, 9, 10, 11, 12, 13, 17, 18, 20, 21, 45, 46, 99, 103, 106, 107] (S7_11 r1 p2 r3 r5 v116 v117 v118 r234 r244 v119) (TI.o { val := .bool true } (q_conv (e := r244.2 != 16) (b := true) (by kernel_rfl) hc254) [5, 6, 7, 8, 9, 10, 11, 12, 13, 17, 18, 20, 21, 45, 46, 99, 103, 106, 108] [0, 1, 2, 3, 6] (st 244 [(5, accV 1 r1.length), (6, iv (Int.tmod (w64 p2) 3600)), (7, accV 2 r3.1.length), (8, iv r3.2), (9, accV 3 r5.1.length), (10, iv r5.2), (11, iv v116), (12, .bool v117), (13, iv (w64 (v118 + 1))), (17, iv (w64 (r234.1.1 + r234.1.2))), (18, iv (w64 (r234.2.1 + r234.2.2))), (20, accV 6 r244.1.length), (21, iv r244.2), (45, iv (r1.length : Int)), (46, iv v119), (99, .bool false), (103, .bool true), (106, .bool true), (108, .bool true)]) (H7_50 p0 r1 r3 r5 r244) ?_))))))))
             exact TI.rn 12 [5, 6, 7, 8, 9, 10, 11, 12, 13, 17, 18, 45, 46, 120] [0, 1, 2, 3] (S7_42 r1 p2 r3 r5 v116 v117 v118 r234 v119) (H7_54 p0 r1 r3 r5) (TI.dn hK)
           replace hm299 := of_neg hm299 hc254
           rcases Bool.eq_false_or_eq_true (r244.2 == 0) with hc255 | hc255
           · replace hm299 := of_pos hm299 hc255
             have hm299 := sj hm299
             subst hm299
             refine TS.rg (TI.ra 2 [5, 6, 7, 8, 9, 10, 11, 12, 13, 17, 18, 20, 21, 45, 46, 92, 93] (S7_10 r1 p2 r3 r5 v116 v117 v118 r234 r244 v119) (TI.o { val := .bool false } (q_conv (e := (w64 (r234.1.1 + r234.1.2)) == (w64 (r234.2.1 + r234.2.2))) (b := false) (by kernel_rfl) hc246) [5, 6, 7, 8, 9, 10, 11, 12, 13, 17, 18, 20, 21, 45, 46, 94] [0, 1, 2, 3, 6] (S7_34 r1 p2 r3 r5 v116 v117 v118 r234 r244 v119) (H7_50 p0 r1 r3 r5 r244) (TI.ra 7 [5, 6, 7, 8, 9, 10, 11, 12, 13, 17, 18, 20, 21, 45, 46, 99, 100, 101] (S7_7 r1 p2 r3 r5 v116 v117 v118 r234 r244 v119) (TI.o { val := .bool true } (q_conv (e := decide ((w64 (r234.1.1 + r234.1.2)) > (w64 (r234.2.1 + r234.2.2)))) (b := true) (by kernel_rfl) hc252) [5, 6, 7, 8, 9, 10, 11, 12, 13, 17, 18, 20, 21, 45, 46, 99, 102] [0, 1, 2, 3, 6] (S7_29 r1 p2 r3 r5 v116 v117 v118 r234 r244 v119) (H7_50 p0 r1 r3 r5 r244) (TI.ra 2 [5, 6, 7, 8, 9, 10, 11, 12, 13, 17, 18, 20, 21, 45, 46, 99, 103, 104] (S7_23 r1 p2 r3 r5 v116 v117 v118 r234 r244 v119) (TI.o { val := .bool true } (q_conv (e := r244.2 != 0) (b := true) (by kernel_rfl) hc253) [5, 6, 7, 8, 9, 10, 11, 12, 13, 17, 18, 20, 21, 45, 46, 99, 103, 105] [0, 1, 2, 3, 6] (S7_21 r1 p2 r3 r5 v116 v117 v118 r234 r244 v119) (H7_50 p0 r1 r3 r5 r244) (TI.ra 2 [5, 6, 7, 8, 9, 10, 11, 12, 13, 17, 18, 20, 21, 45, 46, 99, 103, 106, 107] (S7_11 r1 p2 r3 r5 v116 v117 v118 r234 r244 v119) (TI.o { val := .bool false } (q_conv (e := r244.2 != 16) (b := false) (by kernel_rfl) hc254) [5, 6, 7, 8, 9, 10, 11, 12, 13, 17, 18, 20, 21, 45, 46, 99, 103, 106, 108] [0, 1, 2, 3, 6] (S7_9 r1 p2 r3 r5 v116 v117 v118 r234 r244 v119) (H7_50 p0 r1 r3 r5 r244) ?_))))))))
             exact TI.ra 3 [5, 6, 7, 8, 9, 10, 11, 12, 13, 17, 18, 20, 45, 46, 99, 103, 110, 111] (S7_19 r1 p2 r3 r5 v116 v117 v118 r234 r244 v119) (TI.o { val := .bool true } (q_conv (e := r244.2 == 0) (b := true) (by kernel_rfl) hc255) [5, 6, 7, 8, 9, 10, 11, 12, 13, 17, 18, 20, 45, 46, 99, 103, 110, 112] [0, 1, 2, 3, 6] (S7_18 r1 p2 r3 r5 v116 v117 v118 r234 r244 v119) (H7_50 p0 r1 r3 r5 r244) (TI.rn 8 [5, 6, 7, 8, 9, 10, 11, 12, 13, 17, 18, 45, 46, 120] [0, 1, 2, 3] (S7_36 r1 p2 r3 r5 v116 v117 v118 r234 v119 r244) (H7_54 p0 r1 r3 r5) (TI.dn hK)))
           replace hm299 := of_neg hm299 hc255
           have hm299 := sj hm299
           subst hm299
           refine TS.rg (TI.ra 2 [5, 6, 7, 8, 9, 10, 11, 12, 13, 17, 18, 20, 21, 45, 46, 92, 93] (S7_10 r1 p2 r3 r5 v116 v117 v118 r234 r244 v119) (TI.o { val := .bool false } (q_conv (e := (w64 (r234.1.1 + r234.1.2)) == (w64 (r234.2.1 + r234.2.2))) (b := false) (by kernel_rfl) hc246) [5, 6, 7, 8, 9, 10, 11, 12, 13, 17, 18, 20, 21, 45, 46, 94] [0, 1, 2, 3, 6] (S7_34 r1 p2 r3 r5 v116 v117 v118 r234 r244 v119) (H7_50 p0 r1 r3 r5 r244) (TI.ra 7 [5, 6, 7, 8, 9, 10, 11, 12, 13, 17, 18, 20, 21, 45, 46, 99, 100, 101] (S7_7 r1 p2 r3 r5 v116 v117 v118 r234 r244 v119) (TI.o { val := .bool true } (q_conv (e := decide ((w64 (r234.1.1 + r234.1.2)) > (w64 (r234.2.1 + r234.2.2)))) (b := true) (by kernel_rfl) hc252) [5, 6, 7, 8, 9, 10, 11, 12, 13, 17, 18, 20, 21, 45, 46, 99, 102] [0, 1, 2, 3, 6] (S7_29 r1 p2 r3 r5 v116 v117 v118 r234 r244 v119) (H7_50 p0 r1 r3 r5 r244) (TI.ra 2 [5, 6, 7, 8, 9, 10, 11, 12, 13, 17, 18, 20, 21, 45, 46, 99, 103, 104] (S7_23 r1 p2 r3 r5 v116 v117 v118 r234 r244 v119) (TI.o { val := .bool true } (q_conv (e := r244.2 != 0) (b := true) (by kernel_rfl) hc253) [5, 6, 7, 8, 9, 10, 11, 12, 13, 17, 18, 20, 21, 45, 46, 99, 103, 105] [0, 1, 2, 3, 6] (S7_21 r1 p2 r3 r5 v116 v117 v118 r234 r244 v119) (H7_50 p0 r1 r3 r5 r244) (TI.ra 2 [5, 6, 7, 8, 9, 10, 11, 12, 13, 17, 18, 20, 21, 45, 46, 99, 103, 106, 107] (S7_11 r1 p2 r3 r5 v116 v117 v118 r234 r244 v119) (TI.o { val := .bool false } (q_conv (e := r244.2 != 16) (b := false) (by kernel_rfl) hc254) [5, 6, 7, 8, 9, 10, 11, 12, 13, 17, 18, 20, 21, 45, 46, 99, 103, 106, 108] [0, 1, 2, 3, 6] (S7_9 r1 p2 r3 r5 v116 v117 v118 r234 r244 v119) (H7_50 p0 r1 r3 r5 r244) ?_))))))))
           exact TI.ra 3 [5, 6, 7, 8, 9, 10, 11, 12, 13, 17, 18, 20, 45, 46, 99, 103, 110, 111] (S7_19 r1 p2 r3 r5 v116 v117 v118 r234 r244 v119) (TI.o { val := .bool false } (q_conv (e := r244.2 == 0) (b := false) (by kernel_rfl) hc255) [5, 6, 7, 8, 9, 10, 11, 12, 13, 17, 18, 20, 45, 46, 99, 103, 110, 112] [0, 1, 2, 3, 6] (S7_17 r1 p2 r3 r5 v116 v117 v118 r234 r244 v119) (H7_50 p0 r1 r3 r5 r244) (TI.rn 8 [5, 6, 7, 8, 9, 10, 11, 12, 13, 17, 18, 45, 46, 120] [0, 1, 2, 3] (S7_41 r1 p2 r3 r5 v116 v117 v118 r234 v119) (H7_54 p0 r1 r3 r5) (TI.dn hK)))
         replace hm299 := of_neg hm299 hc253
         rcases Bool.eq_false_or_eq_true (r244.2 == 0) with hc256 | hc256
         · replace hm299 := of_pos hm299 hc256
           have hm299 := sj hm299
           subst hm299
           refine TS.rg (TI.ra 2 [5, 6, 7, 8, 9, 10, 11, 12, 13, 17, 18, 20, 21, 45, 46, 92, 93] (S7_10 r1 p2 r3 r5 v116 v117 v118 r234 r244 v119) (TI.o { val := .bool false } (q_conv (e := (w64 (r234.1.1 + r234.1.2)) == (w64 (r234.2.1 + r234.2.2))) (b := false) (by kernel_rfl) hc246) [5, 6, 7, 8, 9, 10, 11, 12, 13, 17, 18, 20, 21, 45, 46, 94] [0, 1, 2, 3, 6] (S7_34 r1 p2 r3 r5 v116 v117 v118 r234 r244 v119) (H7_50 p0 r1 r3 r5 r244) (TI.ra 7 [5, 6, 7, 8, 9, 10, 11, 12, 13, 17, 18, 20, 21, 45, 46, 99, 100, 101] (S7_7 r1 p2 r3 r5 v116 v117 v118 r234 r244 v119) (TI.o { val := .bool true } (q_conv (e := decide ((w64 (r234.1.1 + r234.1.2)) > (w64 (r234.2.1 + r234.2.2)))) (b := true) (by kernel_rfl) hc252) [5, 6, 7, 8, 9, 10, 11, 12, 13, 17, 18, 20, 21, 45, 46, 99, 102] [0, 1, 2, 3, 6] (S7_29 r1 p2 r3 r5 v116 v117 v118 r234 r244 v119) (H7_50 p0 r1 r3 r5 r244) (TI.ra 2 [5, 6, 7, 8, 9, 10, 11, 12, 13, 17, 18, 20, 21, 45, 46, 99, 103, 104] (S7_23 r1 p2 r3 r5 v116 v117 v118 r234 r244 v119) (TI.o { val := .bool false } (q_conv (e := r244.2 != 0) (b := false) (by kernel_rfl) hc253) [5, 6, 7, 8, 9, 10, 11, 12, 13, 17, 18, 20, 21, 45, 46, 99, 103, 105] [0, 1, 2, 3, 6] (S7_20 r1 p2 r3 r5 v116 v117 v118 r234 r244 v119) (H7_50 p0 r1 r3 r5 r244) (TI.ra 6 [5, 6, 7, 8, 9, 10, 11, 12, 13, 17, 18, 20, 45, 46, 99, 103, 110, 111] (S7_19 r1 p2 r3 r5 v116 v117 v118 r234 r244 v119) (TI.o { val := .bool true } (q_conv (e := r244.2 == 0) (b := true) (by kernel_rfl) hc256) [5, 6, 7, 8, 9, 10, 11, 12, 13, 17, 18, 20, 45, 46, 99, 103, 110, 112] [0, 1, 2, 3, 6] (S7_18 r1 p2 r3 r5 v116 v117 v118 r234 r244 v119) (H7_50 p0 r1 r3 r5 r244) ?_))))))))
           exact TI.rn 8 [5, 6, 7, 8, 9, 10, 11, 12, 13, 17, 18, 45, 46, 120] [0, 1, 2, 3] (S7_36 r1 p2 r3 r5 v116 v117 v118 r234 v119 r244) (H7_54 p0 r1 r3 r5) (TI.dn hK)
         replace hm299 := of_neg hm299 hc256
         have hm299 := sj hm299
         subst hm299
         refine TS.rg (TI.ra 2 [5, 6, 7, 8, 9, 10, 11, 12, 13, 17, 18, 20, 21, 45, 46, 92, 93] (S7_10 r1 p2 r3 r5 v116 v117 v118 r234 r244 v119) (TI.o { val := .bool false } (q_conv (e := (w64 (r234.1.1 + r234.1.2)) == (w64 (r234.2.1 + r234.2.2))) (b := false) (by kernel_rfl) hc246) [5, 6, 7, 8, 9, 10, 11, 12, 13, 17, 18, 20, 21, 45, 46, 94] [0, 1, 2, 3, 6] (S7_34 r1 p2 r3 r5 v116 v117 v118 r234 r244 v119) (H7_50 p0 r1 r3 r5 r244) (TI.ra 7 [5, 6, 7, 8, 9, 10, 11, 12, 13, 17, 18, 20, 21, 45, 46, 99, 100, 101] (S7_7 r1 p2 r3 r5 v116 v117 v118 r234 r244 v119) (TI.o { val := .bool true } (q_conv (e := decide ((w64 (r234.1.1 + r234.1.2)) > (w64 (r234.2.1 + r234.2.2)))) (b := true) (by kernel_rfl) hc252) [5, 6, 7, 8, 9, 10, 11, 12, 13, 17, 18, 20, 21, 45, 46, 99, 102] [0, 1, 2, 3, 6] (S7_29 r1 p2 r3 r5 v116 v117 v118 r234 r244 v119) (H7_50 p0 r1 r3 r5 r244) (TI.ra 2 [5, 6, 7, 8, 9, 10, 11, 12, 13, 17, 18, 20, 21, 45, 46, 99, 103, 104] (S7_23 r1 p2 r3 r5 v116 v117 v118 r234 r244 v119) (TI.o { val := .bool false } (q_conv (e := r244.2 != 0) (b := false) (by kernel_rfl) hc253) [5, 6, 7, 8, 9, 10, 11, 12, 13, 17, 18, 20, 21, 45, 46, 99, 103, 105] [0, 1, 2, 3, 6] (S7_20 r1 p2 r3 r5 v116 v117 v118 r234 r244 v119) (H7_50 p0 r1 r3 r5 r244) (TI.ra 6 [5, 6, 7, 8, 9, 10, 11, 12, 13, 17, 18, 20, 45, 46, 99, 103, 110, 111] (S7_19 r1 p2 r3 r5 v116 v117 v118 r234 r244 v119) (TI.o { val := .bool false } (q_conv (e := r244.2 == 0) (b := false) (by kernel_rfl) hc256) [5, 6, 7, 8, 9, 10, 11, 12, 13, 17, 18, 20, 45, 46, 99, 103, 110, 112] [0, 1, 2, 3, 6] (S7_17 r1 p2 r3 r5 v116 v117 v118 r234 r244 v119) (H7_50 p0 r1 r3 r5 r244) ?_))))))))
         exact TI.rn 8 [5, 6, 7, 8, 9, 10, 11, 12, 13, 17, 18, 45, 46, 120] [0, 1, 2, 3] (S7_41 r1 p2 r3 r5 v116 v117 v118 r234 v119) (H7_54 p0 r1 r3 r5) (TI.dn hK)
       replace hm299 := of_neg hm299 hc252
       have hm299 := sj hm299
       subst hm299
       exact TS.rg (TI.ra 2 [5, 6, 7, 8, 9, 10, 11, 12, 13, 17, 18, 20, 21, 45, 46, 92, 93] (S7_10 r1 p2 r3 r5 v116 v117 v118 r234 r244 v119) (TI.o { val := .bool false } (q_conv (e := (w64 (r234.1.1 + r234.1.2)) == (w64 (r234.2.1 + r234.2.2))) (b := false) (by kernel_rfl) hc246) [5, 6, 7, 8, 9, 10, 11, 12, 13, 17, 18, 20, 21, 45, 46, 94] [0, 1, 2, 3, 6] (S7_34 r1 p2 r3 r5 v116 v117 v118 r234 r244 v119) (H7_50 p0 r1 r3 r5 r244) (TI.ra 7 [5, 6, 7, 8, 9, 10, 11, 12, 13, 17, 18, 20, 21, 45, 46, 99, 100, 101] (S7_7 r1 p2 r3 r5 v116 v117 v118 r234 r244 v119) (TI.o { val := .bool false } (q_conv (e := decide ((w64 (r234.1.1 + r234.1.2)) > (w64 (r234.2.1 + r234.2.2)))) (b := false) (by kernel_rfl) hc252) [5, 6, 7, 8, 9, 10, 11, 12, 13, 17, 18, 20, 21, 45, 46, 99, 102] [0, 1, 2, 3, 6] (S7_28 r1 p2 r3 r5 v116 v117 v118 r234 r244 v119) (H7_50 p0 r1 r3 r5 r244) (TI.rn 18 [5, 6, 7, 8, 9, 10, 11, 12, 13, 17, 18, 45, 46, 120] [0, 1, 2, 3] (S7_41 r1 p2 r3 r5 v116 v117 v118 r234 v119) (H7_54 p0 r1 r3 r5) (TI.dn hK))))))
     rcases Bool.eq_false_or_eq_true (decide (v118 ≥ (r5.1.length : Int))) with hc237 | hc237
     · replace hm300 := of_pos hm300 hc237
       have hm300 := sj hm300
       subst hm300
       exact TS.rg (TI.ra 3 [5, 6, 7, 8, 9, 10, 11, 12, 13, 14, 17, 18, 45, 46, 68, 70] (S7_37 r1 p2 r3 r5 v116 v117 v118 v119 r234) (TI.o { val := .bool true } (q_conv (e := decide (v118 ≥ (r5.1.length : Int))) (b := true) (by kernel_rfl) hc237) [5, 6, 7, 8, 9, 10, 11, 12, 13, 14, 17, 18, 45, 46, 71] [0, 1, 2, 3] (st 244 [(5, accV 1 r1.length), (6, iv (Int.tmod (w64 p2) 3600)), (7, accV 2 r3.1.length), (8, iv r3.2), (9, accV 3 r5.1.length), (10, iv r5.2), (11, iv v116), (12, .bool v117), (13, iv v118), (14, iv v119), (17, iv (w64 (r234.1.1 + r234.1.2))), (18, iv (w64 (r234.2.1 + r234.2.2))), (45, iv (r1.length : Int)), (46, iv v119), (71, .bool true)]) (H7_55 p0 r1 r3 r5) (TI.ra 8 [5, 6, 7, 8, 9, 10, 11, 12, 13, 17, 18, 45, 46, 79] (st 244 [(5, accV 1 r1.length), (6, iv (Int.tmod (w64 p2) 3600)), (7, accV 2 r3.1.length), (8, iv r3.2), (9, accV 3 r5.1.length), (10, iv r5.2), (11, iv v116), (12, .bool v117), (13, iv v118), (17, iv (w64 (r234.1.1 + r234.1.2))), (18, iv (w64 (r234.2.1 + r234.2.2))), (45, iv (r1.length : Int)), (46, iv v119), (79, .bool true)]) (TI.dn hK))))
     replace hm300 := of_neg hm300 hc237
     have hX := of_guard hm300
     clear hm300
     obtain ⟨hg238, hm300⟩ := hX
     have hX := of_do hm300
     clear hm300
     obtain ⟨o239, h240, hm300⟩ := hX
     replace h240 := sj h240
     have hm300 := sj hm300
     subst hm300
     exact TS.rg (TI.ra 3 [5, 6, 7, 8, 9, 10, 11, 12, 13, 14, 17, 18, 45, 46, 68, 70] (S7_37 r1 p2 r3 r5 v116 v117 v118 v119 r234) (TI.o { val := .bool false } (q_conv (e := decide (v118 ≥ (r5.1.length : Int))) (b := false) (by kernel_rfl) hc237) [5, 6, 7, 8, 9, 10, 11, 12, 13, 14, 17, 18, 45, 46, 71] [0, 1, 2, 3] (st 244 [(5, accV 1 r1.length), (6, iv (Int.tmod (w64 p2) 3600)), (7, accV 2 r3.1.length), (8, iv r3.2), (9, accV 3 r5.1.length), (10, iv r5.2), (11, iv v116), (12, .bool v117), (13, iv v118), (14, iv v119), (17, iv (w64 (r234.1.1 + r234.1.2))), (18, iv (w64 (r234.2.1 + r234.2.2))), (45, iv (r1.length : Int)), (46, iv v119), (71, .bool false)]) (H7_55 p0 r1 r3 r5) (TI.ra 3 [5, 6, 7, 8, 9, 10, 11, 12, 13, 14, 17, 18, 45, 46, 72, 73, 74] (st 244 [(5, accV 1 r1.length), (6, iv (Int.tmod (w64 p2) 3600)), (7, accV 2 r3.1.length), (8, iv r3.2), (9, accV 3 r5.1.length), (10, iv r5.2), (11, iv v116), (12, .bool v117), (13, iv v118), (14, iv v119), (17, iv (w64 (r234.1.1 + r234.1.2))), (18, iv (w64 (r234.2.1 + r234.2.2))), (45, iv (r1.length : Int)), (46, iv v119), (72, .bool false), (73, accV 3 r5.1.length), (74, iv v118)]) (TI.o { val := .pointer (some ⟨3, 0 + (Int.toNat v118) * 1, none⟩) } (q_ixAcc (P := Try.prog) (t := 34) (s := 1) (e := 3) 3 r5.1.length (by kernel_rfl) hg238 (by kernel_rfl) (by kernel_rfl)) [5, 6, 7, 8, 9, 10, 11, 12, 13, 14, 17, 18, 45, 46, 72, 75] [0, 1, 2, 3] (st 244 [(5, accV 1 r1.length), (6, iv (Int.tmod (w64 p2) 3600)), (7, accV 2 r3.1.length), (8, iv r3.2), (9, accV 3 r5.1.length), (10, iv r5.2), (11, iv v116), (12, .bool v117), (13, iv v118), (14, iv v119), (17, iv (w64 (r234.1.1 + r234.1.2))), (18, iv (w64 (r234.2.1 + r234.2.2))), (45, iv (r1.length : Int)), (46, iv v119), (72, .bool false), (75, .pointer (some ⟨3, 0 + (Int.toNat v118) * 1, none⟩))]) (H7_55 p0 r1 r3 r5) (TI.o { val := iv o239 } (q_n1a Try.prog (H7_55 p0 r1 r3 r5) 3 3 (0 + (Int.toNat v118) * 1) r5.1 e3 1 3 (Int.toNat v118) 0 0 h240) [5, 6, 7, 8, 9, 10, 11, 12, 13, 14, 17, 18, 45, 46, 72, 76] [0, 1, 2, 3] (st 244 [(5, accV 1 r1.length), (6, iv (Int.tmod (w64 p2) 3600)), (7, accV 2 r3.1.length), (8, iv r3.2), (9, accV 3 r5.1.length), (10, iv r5.2), (11, iv v116), (12, .bool v117), (13, iv v118), (14, iv v119), (17, iv (w64 (r234.1.1 + r234.1.2))), (18, iv (w64 (r234.2.1 + r234.2.2))), (45, iv (r1.length : Int)), (46, iv v119), (72, .bool false), (76, iv o239)]) (H7_55 p0 r1 r3 r5) (TI.ra 3 [5, 6, 7, 8, 9, 10, 11, 12, 13, 17, 18, 45, 46, 79] (st 244 [(5, accV 1 r1.length), (6, iv (Int.tmod (w64 p2) 3600)), (7, accV 2 r3.1.length), (8, iv r3.2), (9, accV 3 r5.1.length), (10, iv r5.2), (11, iv v116), (12, .bool v117), (13, iv v118), (17, iv (w64 (r234.1.1 + r234.1.2))), (18, iv (w64 (r234.2.1 + r234.2.2))), (45, iv (r1.length : Int)), (46, iv v119), (79, .bool (o239 != v119))]) (TI.dn hK)))))))
   replace hF := of_neg hF hc236
   refine TS.sk (NX.sq (TS.sq (TS.rg (TI.ra 1 [5, 6, 7, 8, 9, 10, 11, 12, 13, 17, 18, 22, 45, 46] (S7_46 r1 p2 r3 r5 v116 v117 v118 r234 v119) (TI.dn (NX.sq (TS.bk 2 ?_)))))))
   obtain ⟨r340, h341, hF⟩ := of_do hF
   refine TS.lp (TL.weak (a2 := (S7_46 r1 p2 r3 r5 v116 v117 v118 r234 v119)) (h2 := (H7_57 p0 r1 r3 r5)) (Wk.an [1, 2, 3] (.ac (.ac (.ac (.ac (.nil _))))) [accV 1 r1.length, iv (Int.tmod (w64 p2) 3600), accV 2 r3.1.length, iv r3.2, accV 3 r5.1.length, iv r5.2, iv v116, .bool v117, iv v118, iv (w64 (r234.1.1 + r234.1.2)), iv (w64 (r234.2.1 + r234.2.2)), iv (-2), iv (r1.length : Int), iv v119] (.cons (Rn.acc (nl rfl) rfl) (.fl (.cons (Rn.acc (nl rfl) rfl) (.fl (.cons (Rn.acc (nl rfl) rfl) (.fl (.fl (.fl (.fl (.fl (.fl (.fl (.fl (.fl .nil))))))))))))))) (TL.post (L7l2 p0 p2 r1 r3 r5 r234 v118 v119 v116 v117 (-2) r340 h341) ?_))
   rintro e a1 h1 hp
   obtain ⟨rfl, hw⟩ := hp
   refine ⟨(st 244 [(5, accV 1 r1.length), (6, iv (Int.tmod (w64 p2) 3600)), (7, accV 2 r3.1.length), (8, iv r3.2), (9, accV 3 r5.1.length), (10, iv r5.2), (11, iv r340.1), (12, .bool r340.2), (13, iv v118), (45, iv (r1.length : Int)), (46, iv v119)]), (H7_57 p0 r1 r3 r5), (NX.bkX (NX.bk (NX.sq (TS.rg (TI.ra 2 [5, 6, 7, 8, 9, 10, 11, 12, 13, 45, 46] (S7_49 r1 p2 r3 r5 r340 v118 v119) (TI.dn ?_)))))), hw⟩
   exact Rd.again (a2 := (S7_49 r1 p2 r3 r5 r340 v118 v119)) (h2 := (H7_57 p0 r1 r3 r5)) (Wk.an [1, 2, 3] (.ac (.ac (.ac (.ac (.nil _))))) [accV 1 r1.length, iv (Int.tmod (w64 p2) 3600), accV 2 r3.1.length, iv r3.2, accV 3 r5.1.length, iv r5.2, iv r340.1, .bool r340.2, iv v118, iv (r1.length : Int), iv (w64 (v119 + 1))] (.cons (Rn.acc (nl rfl) rfl) (.fl (.cons (Rn.acc (nl rfl) rfl) (.fl (.cons (Rn.acc (nl rfl) rfl) (.fl (.fl (.fl (.fl (.fl (.fl .nil)))))))))))) (ih r340.1 r340.2 v118 (w64 (v119 + 1)) _ hF)
 replace hF := of_neg hF hc233
 refine TS.ex 0 (NX.sqX ?_)
 have hF := sj hF
 subst hF
 exact Rd.out (e := .exit 0) (by intro h; cases h) (And.intro rfl (Wk.an [1, 2, 3] (.ac (.ac (.ac (.ac (.nil _))))) [accV 1 r1.length, iv (Int.tmod (w64 p2) 3600), accV 2 r3.1.length, iv r3.2, accV 3 r5.1.length, iv r5.2, iv v116, .bool v117, iv v118] (.cons (Rn.acc (nl rfl) rfl) (.fl (.cons (Rn.acc (nl rfl) rfl) (.fl (.cons (Rn.acc (nl rfl) rfl) (.fl (.fl (.fl (.fl .nil)))))))))))
def P7l3 (p0 : List I2) (p2 : Int) (r1 : List I2) (r3 : (List I2) × Int) (r : Unit ⊕ Unit) : Post := fun e a h => (match r with | .inl q0 => e = .ret ∧ Wk Try.prog 1 1 a h (st 244 [(4, .bool false)]) [ab 81 e81 p0] | .inr q0 => e = .exit 4 ∧ Wk Try.prog 1 1 a h (st 244 []) [ab 81 e81 p0])
theorem L7l3 (p0 : List I2) (p2 : Int) (r1 : List I2) (r3 : (List I2) × Int) (v373 : Int) (r : Unit ⊕ Unit) (hF : F7l3 p0 p2 r1 r3 v373 = some r) : TL Try.prog 1 1 c7.s2.s2.s2.s2.s2.s2.s2.s2.s2.s2.s2.s1.s2.bd.bd (S7_58 r1 p2 r3 v373) (H7_64 p0 r1 r3) (P7l3 p0 p2 r1 r3 r) := by
 refine F7l3.partial_correctness p0 p2 r1 r3 (motive := fun v373 r => TL Try.prog 1 1 c7.s2.s2.s2.s2.s2.s2.s2.s2.s2.s2.s2.s1.s2.bd.bd (S7_58 r1 p2 r3 v373) (H7_64 p0 r1 r3) (P7l3 p0 p2 r1 r3 r)) ?_ v373 r hF
 clear hF r v373
 intro again ih v373 r hF
 refine TL.round (TS.sq (TS.rg (TI.ra 1 [5, 6, 7, 197, 198, 199, 200] (st 244 [(5, accV 1 r1.length), (6, iv (Int.tmod (w64 p2) 3600)), (7, accV 2 r3.1.length), (197, accV 2 r3.1.length), (198, iv (r3.1.length : Int)), (199, iv v373), (200, .bool (decide (v373 < (r3.1.length : Int))))]) (TI.dn (NX.sq (TS.sq ?_))))))
 refine TS.cd (.tmp 200) (decide (v373 < (r3.1.length : Int))) (fun hc393 => ?_) (fun hc393 => ?_)
 · replace hF := of_pos hF hc393
   refine TS.sk (NX.sq (TS.sq (TS.bk 5 (TS.sq ?_))))
   obtain ⟨hg394, hF⟩ := of_guard hF
   obtain ⟨o395, h396, hF⟩ := of_do hF
   replace h396 := sj h396
   refine TS.rg (TI.ra 1 [5, 6, 7, 197, 198, 199, 201] (st 244 [(5, accV 1 r1.length), (6, iv (Int.tmod (w64 p2) 3600)), (7, accV 2 r3.1.length), (197, accV 2 r3.1.length), (198, iv (r3.1.length : Int)), (199, iv v373), (201, iv v373)]) (TI.o { val := .pointer (some ⟨2, 0 + (Int.toNat v373) * 2, none⟩) } (q_ixAcc (P := Try.prog) (t := 42) (s := 2) (e := 29) 2 r3.1.length (by kernel_rfl) hg394 (by kernel_rfl) (by kernel_rfl)) [5, 6, 7, 197, 198, 199, 201, 202] [0, 1, 2] (st 244 [(5, accV 1 r1.length), (6, iv (Int.tmod (w64 p2) 3600)), (7, accV 2 r3.1.length), (197, accV 2 r3.1.length), (198, iv (r3.1.length : Int)), (199, iv v373), (201, iv v373), (202, .pointer (some ⟨2, 0 + (Int.toNat v373) * 2, none⟩))]) (H7_64 p0 r1 r3) (TI.o { val := ag [iv o395.1, iv o395.2] } (q_nAa Try.prog (H7_64 p0 r1 r3) 29 2 (0 + (Int.toNat v373) * 2) r3.1 e29 2 29 (Int.toNat v373) (0, 0) h396) [5, 6, 7, 197, 198, 199, 201, 203] [0, 1, 2] (st 244 [(5, accV 1 r1.length), (6, iv (Int.tmod (w64 p2) 3600)), (7, accV 2 r3.1.length), (197, accV 2 r3.1.length), (198, iv (r3.1.length : Int)), (199, iv v373), (201, iv v373), (203, ag [iv o395.1, iv o395.2])]) (H7_64 p0 r1 r3) (TI.rn 3 [5, 6, 7, 24, 25, 197, 198, 199] [0, 1, 2, 3] (st 244 [(5, accV 1 r1.length), (6, iv (Int.tmod (w64 p2) 3600)), (7, accV 2 r3.1.length), (24, iv v373), (25, pt 3 0), (197, accV 2 r3.1.length), (198, iv (r3.1.length : Int)), (199, iv v373)]) (H7_60 p0 r1 r3 o395) (TI.dn (NX.sq (TS.sq (TS.sq ?_))))))))
   obtain ⟨r397, h398, hF⟩ := of_do hF
   obtain ⟨m404, hm410, hF⟩ := of_do hF
   have hK : NX Try.prog 1 1 [.sq c7.s2.s2.s2.s2.s2.s2.s2.s2.s2.s2.s2.s1.s2.bd.bd.s2.s2.s1.bd.s2.s1.s2, .sq c7.s2.s2.s2.s2.s2.s2.s2.s2.s2.s2.s2.s1.s2.bd.bd.s2.s2.s1.bd.s2.s2, .bk 5, .sq c7.s2.s2.s2.s2.s2.s2.s2.s2.s2.s2.s2.s1.s2.bd.bd.s2.s2.s2] (Rd Try.prog 1 1 c7.s2.s2.s2.s2.s2.s2.s2.s2.s2.s2.s2.s1.s2.bd.bd (P7l3 p0 p2 r1 r3 r)) .normal (st 244 [(5, accV 1 r1.length), (6, iv (Int.tmod (w64 p2) 3600)), (7, accV 2 r3.1.length), (25, pt 3 0), (197, accV 2 r3.1.length), (198, iv (r3.1.length : Int)), (199, iv v373), (231, .bool m404)]) (H7_60 p0 r1 r3 o395) := by
    refine NX.sq ?_
    cases m404 with
    | true =>
     replace hF := of_pos hF rfl
     refine TS.cdT (.tmp 231) (TS.sq (TS.rg (TI.rn 1 [4] [0] (st 244 [(4, .bool false)]) (H7_66 p0) (TI.dn (NX.sq (TS.rt (NX.sqR (NX.bkR ?_))))))))
     refine NX.sqR ?_
     have hF := sj hF
     subst hF
     exact Rd.out (e := .ret) (by intro h; cases h) (And.intro rfl (Wk.an [] (.ac (.nil _)) [.bool false] (.fl .nil)))
    | false =>
     replace hF := of_neg hF rfl
     refine TS.cdF (.tmp 231) (TS.sk (NX.sq (TS.sq ?_)))
     obtain ⟨r405, h406, hF⟩ := of_do hF
     refine TS.rg (TI.rn 2 [5, 6, 7, 197, 198, 199, 233, 234] [0, 1, 2] (st 244 [(5, accV 1 r1.length), (6, iv (Int.tmod (w64 p2) 3600)), (7, accV 2 r3.1.length), (197, accV 2 r3.1.length), (198, iv (r3.1.length : Int)), (199, iv v373), (233, accV 1 r1.length), (234, ag [iv o395.1, iv o395.2])]) (H7_63 p0 r1 r3) (TI.cp 41 [accV 1 r1.length, ag [iv o395.1, iv o395.2]] (.tuple ⟨[ag [iv r405.1.1, iv r405.1.2], iv r405.2]⟩) [] (PureSim.ren (hc := [ab 55 e55 r1]) (fun i => List.getD [(1, 0)] i (0, 0)) (C41 _ _ _ _ h406) (.ac (.nil _)) (.cons (Rn.accA (i' := 1) (nl rfl) rfl) (.fl .nil)) (.flat (by kernel_rfl)) newflat_nil) (TI.rn 6 [5, 6, 7, 26, 197, 198, 199] [0, 1, 2, 4] (st 244 [(5, accV 1 r1.length), (6, iv (Int.tmod (w64 p2) 3600)), (7, accV 2 r3.1.length), (26, pt 4 0), (197, accV 2 r3.1.length), (198, iv (r3.1.length : Int)), (199, iv v373)]) [ab 81 e81 p0, ab 55 e55 r1, ab 29 e29 r3.1, .dead, cl 29 [iv r405.1.1, iv r405.1.2]] (TI.dn (NX.sq (TS.sq ?_))))))
     obtain ⟨r407, h408, hF⟩ := of_do hF
     refine TS.rg (TI.rn 2 [5, 6, 7, 197, 198, 199, 238, 239] [0, 1, 2] (st 244 [(5, accV 1 r1.length), (6, iv (Int.tmod (w64 p2) 3600)), (7, accV 2 r3.1.length), (197, accV 2 r3.1.length), (198, iv (r3.1.length : Int)), (199, iv v373), (238, ag [iv r405.1.1, iv r405.1.2]), (239, iv (Int.tmod (w64 p2) 3600))]) [ab 81 e81 p0, ab 55 e55 r1, ab 29 e29 r3.1, .dead, .dead] (TI.cf (C42 _ _ _ _ h408) (TI.ra 1 [5, 6, 7, 197, 198, 199, 241] (st 244 [(5, accV 1 r1.length), (6, iv (Int.tmod (w64 p2) 3600)), (7, accV 2 r3.1.length), (197, accV 2 r3.1.length), (198, iv (r3.1.length : Int)), (199, iv v373), (241, .bool (!r407))]) (TI.dn (NX.sq ?_)))))
     refine TS.cd (.tmp 241) (!r407) (fun hc409 => ?_) (fun hc409 => ?_)
     · replace hF := of_pos hF hc409
       refine TS.sq (TS.rg (TI.rn 1 [4] [0] (st 244 [(4, .bool false)]) [ab 81 e81 p0, .dead, .dead, .dead, .dead] (TI.dn (NX.sq (TS.rt (NX.bkR (NX.sqR ?_)))))))
       have hF := sj hF
       subst hF
       exact Rd.out (e := .ret) (by intro h; cases h) (And.intro rfl (Wk.an [] (.ac (.nil _)) [.bool false] (.fl .nil)))
     replace hF := of_neg hF hc409
     refine TS.sk (NX.bk (NX.sq (TS.rg (TI.ra 2 [5, 6, 7, 197, 198, 199] (S7_56 r1 p2 r3 v373) (TI.dn ?_)))))
     exact Rd.again (a2 := (S7_56 r1 p2 r3 v373)) (h2 := (H7_64 p0 r1 r3)) (Wk.an [1, 2] (.ac (.ac (.ac (.nil _)))) [accV 1 r1.length, iv (Int.tmod (w64 p2) 3600), accV 2 r3.1.length, accV 2 r3.1.length, iv (r3.1.length : Int), iv (w64 (v373 + 1))] (.cons (Rn.acc (nl rfl) rfl) (.fl (.cons (Rn.acc (nl rfl) rfl) (.cons (Rn.acc (nl rfl) rfl) (.fl (.fl .nil))))))) (ih (w64 (v373 + 1)) _ hF)
   rcases Bool.eq_false_or_eq_true (!r397) with hc399 | hc399
   · replace hm410 := of_pos hm410 hc399
     have hm410 := sj hm410
     subst hm410
     have hT : ∀ e ∈ ([⟨40, [ag [iv o395.1, iv o395.2], iv 3600], (H7_60 p0 r1 r3 o395), .bool r397, []⟩] : List Entry), PureSim Try.prog e.g e.args e.h e.v e.new := by
      intro e he
      simp only [List.mem_cons, List.not_mem_nil, or_false] at he
      rcases he with rfl
      exact PureSim.ak (C40 _ _ _ _ h398)
     refine TS.dp [⟨40, [ag [iv o395.1, iv o395.2], iv 3600], (H7_60 p0 r1 r3 o395), .bool r397, []⟩] hT mixed 25 [5, 6, 7, 25, 197, 198, 199, 231] [0, 1, 2, 3] (st 244 [(5, accV 1 r1.length), (6, iv (Int.tmod (w64 p2) 3600)), (7, accV 2 r3.1.length), (25, pt 3 0), (197, accV 2 r3.1.length), (198, iv (r3.1.length : Int)), (199, iv v373), (231, .bool true)]) (H7_60 p0 r1 r3 o395) ?_ ?_
     · exact QJ.rn (qs (S7_52 r1 p2 r3 v373 o395) (H7_60 p0 r1 r3 o395) [] []) 1 (QJ.o { val := .bool r397, new := [] } (qOf_call (g := 40) (args := [ag [iv o395.1, iv o395.2], iv 3600]) (by kernel_rfl) lookC_hit) (QJ.o { val := .bool true } (q_conv (e := !r397) (b := true) (by kernel_rfl) hc399) (QJ.rn (qs (st 244 [(5, accV 1 r1.length), (6, iv (Int.tmod (w64 p2) 3600)), (7, accV 2 r3.1.length), (24, iv v373), (25, pt 3 0), (197, accV 2 r3.1.length), (198, iv (r3.1.length : Int)), (199, iv v373), (204, ag [iv o395.1, iv o395.2]), (205, .bool r397), (206, .bool true), (207, .bool true), (208, undef), (209, undef), (210, undef), (211, undef), (212, undef), (213, undef), (214, undef), (215, undef), (216, undef), (217, undef), (218, undef), (219, undef), (220, undef), (221, undef), (222, undef), (223, undef), (224, undef), (225, undef), (226, undef), (227, undef), (228, undef)]) (H7_60 p0 r1 r3 o395) [] []) 22 (QJ.dn ⟨rfl, SJ.la⟩))))
     exact hK
   replace hm410 := of_neg hm410 hc399
   rcases Bool.eq_false_or_eq_true (decide (v373 > 0)) with hc400 | hc400
   · replace hm410 := of_pos hm410 hc400
     have hX := of_guard hm410
     clear hm410
     obtain ⟨hg401, hm410⟩ := hX
     have hX := of_do hm410
     clear hm410
     obtain ⟨o402, h403, hm410⟩ := hX
     replace h403 := sj h403
     have hm410 := sj hm410
     subst hm410
     have hT : ∀ e ∈ ([⟨40, [ag [iv o395.1, iv o395.2], iv 3600], (H7_60 p0 r1 r3 o395), .bool r397, []⟩] : List Entry), PureSim Try.prog e.g e.args e.h e.v e.new := by
      intro e he
      simp only [List.mem_cons, List.not_mem_nil, or_false] at he
      rcases he with rfl
      exact PureSim.ak (C40 _ _ _ _ h398)
     refine TS.dp [⟨40, [ag [iv o395.1, iv o395.2], iv 3600], (H7_60 p0 r1 r3 o395), .bool r397, []⟩] hT mixed 25 [5, 6, 7, 25, 197, 198, 199, 231] [0, 1, 2, 3] (st 244 [(5, accV 1 r1.length), (6, iv (Int.tmod (w64 p2) 3600)), (7, accV 2 r3.1.length), (25, pt 3 0), (197, accV 2 r3.1.length), (198, iv (r3.1.length : Int)), (199, iv v373), (231, .bool (decide ((w64 (o402.1 * o395.2)) ≥ (w64 (o395.1 * o402.2)))))]) (H7_60 p0 r1 r3 o395) ?_ ?_
     · refine QJ.rn (qs (S7_52 r1 p2 r3 v373 o395) (H7_60 p0 r1 r3 o395) [] []) 1 (QJ.o { val := .bool r397, new := [] } (qOf_call (g := 40) (args := [ag [iv o395.1, iv o395.2], iv 3600]) (by kernel_rfl) lookC_hit) (QJ.o { val := .bool false } (q_conv (e := !r397) (b := false) (by kernel_rfl) hc399) (QJ.rn (qs (S7_47 r1 p2 r3 v373 o395 r397) (H7_60 p0 r1 r3 o395) [] []) 2 (QJ.o { val := .bool true } (q_conv (e := decide (v373 > 0)) (b := true) (by kernel_rfl) hc400) (QJ.rn (qs (st 244 [(5, accV 1 r1.length), (6, iv (Int.tmod (w64 p2) 3600)), (7, accV 2 r3.1.length), (24, iv v373), (25, pt 3 0), (197, accV 2 r3.1.length), (198, iv (r3.1.length : Int)), (199, iv v373), (204, ag [iv o395.1, iv o395.2]), (205, .bool r397), (206, .bool false), (207, .bool false), (208, iv v373), (209, .bool true), (210, .bool true), (211, accV 2 r3.1.length), (212, iv v373), (213, iv (w64 (v373 - 1)))]) (H7_60 p0 r1 r3 o395) [] []) 4 (QJ.o { val := .pointer (some ⟨2, 0 + (Int.toNat (w64 (v373 - 1))) * 2, none⟩) } (q_ixAcc (P := Try.prog) (t := 42) (s := 2) (e := 29) 2 r3.1.length (by kernel_rfl) hg401 (by kernel_rfl) (by kernel_rfl)) (QJ.rn (qs (st 244 [(5, accV 1 r1.length), (6, iv (Int.tmod (w64 p2) 3600)), (7, accV 2 r3.1.length), (24, iv v373), (25, pt 3 0), (197, accV 2 r3.1.length), (198, iv (r3.1.length : Int)), (199, iv v373), (204, ag [iv o395.1, iv o395.2]), (205, .bool r397), (206, .bool false), (207, .bool false), (208, iv v373), (209, .bool true), (210, .bool true), (211, accV 2 r3.1.length), (212, iv v373), (213, iv (w64 (v373 - 1))), (214, .pointer (some ⟨2, 0 + (Int.toNat (w64 (v373 - 1))) * 2, none⟩)), (215, .pointer (some ⟨2, 0 + (Int.toNat (w64 (v373 - 1))) * 2, none⟩))]) (H7_60 p0 r1 r3 o395) [] []) 1 (QJ.o { val := iv o402.1 } (q_n1a Try.prog (H7_60 p0 r1 r3 o395) 3 2 (0 + (Int.toNat (w64 (v373 - 1))) * 2) r3.1 e29 2 29 (Int.toNat (w64 (v373 - 1))) 0 (0, 0) h403) ?_))))))))
       exact QJ.rn (qs (st 244 [(5, accV 1 r1.length), (6, iv (Int.tmod (w64 p2) 3600)), (7, accV 2 r3.1.length), (24, iv v373), (25, pt 3 0), (197, accV 2 r3.1.length), (198, iv (r3.1.length : Int)), (199, iv v373), (204, ag [iv o395.1, iv o395.2]), (205, .bool r397), (206, .bool false), (207, .bool false), (208, iv v373), (209, .bool true), (210, .bool true), (211, accV 2 r3.1.length), (212, iv v373), (213, iv (w64 (v373 - 1))), (214, .pointer (some ⟨2, 0 + (Int.toNat (w64 (v373 - 1))) * 2, none⟩)), (215, .pointer (some ⟨2, 0 + (Int.toNat (w64 (v373 - 1))) * 2, none⟩)), (216, iv o402.1), (217, pt 3 1), (218, iv o395.2), (219, iv (w64 (o402.1 * o395.2))), (220, pt 3 0), (221, iv o395.1), (222, accV 2 r3.1.length), (223, iv v373), (224, iv (w64 (v373 - 1)))]) (H7_60 p0 r1 r3 o395) [] []) 8 (QJ.o { val := .pointer (some ⟨2, 0 + (Int.toNat (w64 (v373 - 1))) * 2, none⟩) } (q_ixAcc (P := Try.prog) (t := 42) (s := 2) (e := 29) 2 r3.1.length (by kernel_rfl) hg401 (by kernel_rfl) (by kernel_rfl)) (QJ.rn (qs (st 244 [(5, accV 1 r1.length), (6, iv (Int.tmod (w64 p2) 3600)), (7, accV 2 r3.1.length), (24, iv v373), (25, pt 3 0), (197, accV 2 r3.1.length), (198, iv (r3.1.length : Int)), (199, iv v373), (204, ag [iv o395.1, iv o395.2]), (205, .bool r397), (206, .bool false), (207, .bool false), (208, iv v373), (209, .bool true), (210, .bool true), (211, accV 2 r3.1.length), (212, iv v373), (213, iv (w64 (v373 - 1))), (214, .pointer (some ⟨2, 0 + (Int.toNat (w64 (v373 - 1))) * 2, none⟩)), (215, .pointer (some ⟨2, 0 + (Int.toNat (w64 (v373 - 1))) * 2, none⟩)), (216, iv o402.1), (217, pt 3 1), (218, iv o395.2), (219, iv (w64 (o402.1 * o395.2))), (220, pt 3 0), (221, iv o395.1), (222, accV 2 r3.1.length), (223, iv v373), (224, iv (w64 (v373 - 1))), (225, .pointer (some ⟨2, 0 + (Int.toNat (w64 (v373 - 1))) * 2, none⟩)), (226, .pointer (some ⟨2, 0 + (Int.toNat (w64 (v373 - 1))) * 2 + 1, none⟩))]) (H7_60 p0 r1 r3 o395) [] []) 1 (QJ.o { val := iv o402.2 } (q_n1a Try.prog (H7_60 p0 r1 r3 o395) 3 2 (0 + (Int.toNat (w64 (v373 - 1))) * 2 + 1) r3.1 e29 2 29 (Int.toNat (w64 (v373 - 1))) 1 (0, 0) h403) (QJ.rn (qs (st 244 [(5, accV 1 r1.length), (6, iv (Int.tmod (w64 p2) 3600)), (7, accV 2 r3.1.length), (24, iv v373), (25, pt 3 0), (197, accV 2 r3.1.length), (198, iv (r3.1.length : Int)), (199, iv v373), (204, ag [iv o395.1, iv o395.2]), (205, .bool r397), (206, .bool false), (207, .bool false), (208, iv v373), (209, .bool true), (210, .bool true), (211, accV 2 r3.1.length), (212, iv v373), (213, iv (w64 (v373 - 1))), (214, .pointer (some ⟨2, 0 + (Int.toNat (w64 (v373 - 1))) * 2, none⟩)), (215, .pointer (some ⟨2, 0 + (Int.toNat (w64 (v373 - 1))) * 2, none⟩)), (216, iv o402.1), (217, pt 3 1), (218, iv o395.2), (219, iv (w64 (o402.1 * o395.2))), (220, pt 3 0), (221, iv o395.1), (222, accV 2 r3.1.length), (223, iv v373), (224, iv (w64 (v373 - 1))), (225, .pointer (some ⟨2, 0 + (Int.toNat (w64 (v373 - 1))) * 2, none⟩)), (226, .pointer (some ⟨2, 0 + (Int.toNat (w64 (v373 - 1))) * 2 + 1, none⟩)), (227, iv o402.2), (228, iv (w64 (o395.1 * o402.2)))]) (H7_60 p0 r1 r3 o395) [] []) 1 (QJ.dn ⟨rfl, SJ.la⟩)))))
     exact hK
   replace hm410 := of_neg hm410 hc400
   have hm410 := sj hm410
   subst hm410
   have hT : ∀ e ∈ ([⟨40, [ag [iv o395.1, iv o395.2], iv 3600], (H7_60 p0 r1 r3 o395), .bool r397, []⟩] : List Entry), PureSim Try.prog e.g e.args e.h e.v e.new := by
    intro e he
    simp only [List.mem_cons, List.not_mem_nil, or_false] at he
    rcases he with rfl
    exact PureSim.ak (C40 _ _ _ _ h398)
   refine TS.dp [⟨40, [ag [iv o395.1, iv o395.2], iv 3600], (H7_60 p0 r1 r3 o395), .bool r397, []⟩] hT mixed 25 [5, 6, 7, 25, 197, 198, 199, 231] [0, 1, 2, 3] (st 244 [(5, accV 1 r1.length), (6, iv (Int.tmod (w64 p2) 3600)), (7, accV 2 r3.1.length), (25, pt 3 0), (197, accV 2 r3.1.length), (198, iv (r3.1.length : Int)), (199, iv v373), (231, .bool false)]) (H7_60 p0 r1 r3 o395) ?_ ?_
   · exact QJ.rn (qs (S7_52 r1 p2 r3 v373 o395) (H7_60 p0 r1 r3 o395) [] []) 1 (QJ.o { val := .bool r397, new := [] } (qOf_call (g := 40) (args := [ag [iv o395.1, iv o395.2], iv 3600]) (by kernel_rfl) lookC_hit) (QJ.o { val := .bool false } (q_conv (e := !r397) (b := false) (by kernel_rfl) hc399) (QJ.rn (qs (S7_47 r1 p2 r3 v373 o395 r397) (H7_60 p0 r1 r3 o395) [] []) 2 (QJ.o { val := .bool false } (q_conv (e := decide (v373 > 0)) (b := false) (by kernel_rfl) hc400) (QJ.rn (qs (st 244 [(5, accV 1 r1.length), (6, iv (Int.tmod (w64 p2) 3600)), (7, accV 2 r3.1.length), (24, iv v373), (25, pt 3 0), (197, accV 2 r3.1.length), (198, iv (r3.1.length : Int)), (199, iv v373), (204, ag [iv o395.1, iv o395.2]), (205, .bool r397), (206, .bool false), (207, .bool false), (208, iv v373), (209, .bool false), (210, .bool false), (211, undef), (212, undef), (213, undef), (214, undef), (215, undef), (216, undef), (217, undef), (218, undef), (219, undef), (220, undef), (221, undef), (222, undef), (223, undef), (224, undef), (225, undef), (226, undef), (227, undef), (228, undef)]) (H7_60 p0 r1 r3 o395) [] []) 19 (QJ.dn ⟨rfl, SJ.la⟩))))))
   exact hK
 replace hF := of_neg hF hc393
 refine TS.ex 4 (NX.sqX ?_)
 have hF := sj hF
 subst hF
 exact Rd.out (e := .exit 4) (by intro h; cases h) (And.intro rfl (Wk.an [] (.ac (.nil _)) [] .nil))
theorem B7 (p0 : List I2) (p1 p2 : Int) (r : Bool) (hF : F7 p0 p1 p2 = some r) : TS Try.prog 1 1 c7 (st 244 [(0, ag [sv 0 p0.length ANY, .int .u8 p1]), (1, .int .u16 p2)]) [ab 81 e81 p0] (NX Try.prog 1 1 [] (FinP Try.prog Try.f7 1 (V7 1 r) (N7 1 r))) := by
 unfold F7 at hF
 refine TS.sq (TS.rg (TI.rn 2 [1, 2] [0, 1] (st 244 [(1, .int .u16 p2), (2, pt 1 0)]) [ab 81 e81 p0, cl 72 [sv 0 p0.length ANY, .int .u8 p1]] (TI.dn (NX.sq (TS.sq ?_)))))
 obtain ⟨r1, h2, hF⟩ := of_do hF
 refine TS.rg (TI.rn 1 [1, 28] [0] (st 244 [(1, .int .u16 p2), (28, ag [sv 0 p0.length ANY, .int .u8 p1])]) [ab 81 e81 p0, .dead] (TI.cp 38 [ag [sv 0 p0.length ANY, .int .u8 p1]] (accV 2 r1.length) [ab 55 e55 r1] (PureSim.ren (hc := [ab 81 e81 p0]) (fun i => List.getD [(0, 0)] i (0, 0)) (C38 _ _ _ h2) (.ac (.nil _)) (.cons (Rn.agg' (.cons (Rn.any _ _ _ _ _ _ (nl rfl) rfl rfl (by decide)) (.fl .nil))) .nil) (Rn.acc (i' := 2) (nl rfl) rfl) (newflat_cons (accB_flat (fun _ => rfl)) newflat_nil)) (TI.rn 1 [1, 5] [0, 2] (st 244 [(1, .int .u16 p2), (5, accV 2 r1.length)]) [ab 81 e81 p0, .dead, ab 55 e55 r1] (TI.dn (NX.sq (TS.sq (TS.rg (TI.ra 4 [5, 6] (st 244 [(5, accV 2 r1.length), (6, iv (Int.tmod (w64 p2) 3600))]) ?_))))))))
 refine TI.dn (NX.sq (TS.sq ?_))
 obtain ⟨r3, h4, hF⟩ := of_do hF
 refine TS.rg (TI.ra 2 [5, 6, 34, 35] (st 244 [(5, accV 2 r1.length), (6, iv (Int.tmod (w64 p2) 3600)), (34, accV 2 r1.length), (35, iv (Int.tmod (w64 p2) 3600))]) (TI.cp 24 [accV 2 r1.length, iv (Int.tmod (w64 p2) 3600)] (.tuple ⟨[accV 3 r3.1.length, iv r3.2]⟩) [ab 29 e29 r3.1] (PureSim.ren (hc := [ab 55 e55 r1]) (fun i => List.getD [(2, 0)] i (0, 0)) (C24 _ _ _ h4) (.ac (.nil _)) (.cons (Rn.accA (i' := 2) (nl rfl) rfl) (.fl .nil)) (Rn.tuple' (.cons (Rn.acc (i' := 3) (nl rfl) rfl) (.fl .nil))) (newflat_cons (accB_flat (fun _ => rfl)) newflat_nil)) (TI.rn 5 [5, 6, 7, 8] [0, 2, 3] (st 244 [(5, accV 2 r1.length), (6, iv (Int.tmod (w64 p2) 3600)), (7, accV 3 r3.1.length), (8, iv r3.2)]) [ab 81 e81 p0, .dead, ab 55 e55 r1, ab 29 e29 r3.1] (TI.dn (NX.sq (TS.sq ?_))))))
 obtain ⟨r5, h6, hF⟩ := of_do hF
 refine TS.rg (TI.ra 1 [5, 6, 7, 8, 40] (st 244 [(5, accV 2 r1.length), (6, iv (Int.tmod (w64 p2) 3600)), (7, accV 3 r3.1.length), (8, iv r3.2), (40, accV 2 r1.length)]) (TI.cp 19 [accV 2 r1.length] (.tuple ⟨[accV 4 r5.1.length, iv r5.2]⟩) [ab 3 e3 r5.1] (PureSim.ren (hc := [ab 55 e55 r1]) (fun i => List.getD [(2, 0)] i (0, 0)) (C19 _ _ h6) (.ac (.nil _)) (.cons (Rn.accA (i' := 2) (nl rfl) rfl) .nil) (Rn.tuple' (.cons (Rn.acc (i' := 4) (nl rfl) rfl) (.fl .nil))) (newflat_cons (accB_flat (fun _ => rfl)) newflat_nil)) (TI.rn 5 [5, 6, 7, 8, 9, 10] [0, 2, 3, 4] (st 244 [(5, accV 2 r1.length), (6, iv (Int.tmod (w64 p2) 3600)), (7, accV 3 r3.1.length), (8, iv r3.2), (9, accV 4 r5.1.length), (10, iv r5.2)]) [ab 81 e81 p0, .dead, ab 55 e55 r1, ab 29 e29 r3.1, ab 3 e3 r5.1] (TI.dn (NX.sq (TS.sq (TS.rg (TI.ra 2 [5, 6, 7, 8, 9, 10, 11, 12] (st 244 [(5, accV 2 r1.length), (6, iv (Int.tmod (w64 p2) 3600)), (7, accV 3 r3.1.length), (8, iv r3.2), (9, accV 4 r5.1.length), (10, iv r5.2), (11, iv 0), (12, .bool false)]) ?_))))))))
 refine TI.dn (NX.sq (TS.sq (TS.rg (TI.ra 1 [5, 6, 7, 8, 9, 10, 11, 12, 13] (st 244 [(5, accV 2 r1.length), (6, iv (Int.tmod (w64 p2) 3600)), (7, accV 3 r3.1.length), (8, iv r3.2), (9, accV 4 r5.1.length), (10, iv r5.2), (11, iv 0), (12, .bool false), (13, iv 0)]) (TI.dn (NX.sq (TS.sq (TS.sq ?_))))))))
 refine TS.rg (TI.ra 3 [5, 6, 7, 8, 9, 10, 11, 12, 13, 45, 46] (st 244 [(5, accV 2 r1.length), (6, iv (Int.tmod (w64 p2) 3600)), (7, accV 3 r3.1.length), (8, iv r3.2), (9, accV 4 r5.1.length), (10, iv r5.2), (11, iv 0), (12, .bool false), (13, iv 0), (45, iv (r1.length : Int)), (46, iv 0)]) (TI.dn (NX.sq (TS.bk 0 ?_))))
 obtain ⟨r342, h343, hF⟩ := of_do hF
 refine TS.lp (TL.weak (a2 := (st 244 [(5, accV 1 r1.length), (6, iv (Int.tmod (w64 p2) 3600)), (7, accV 2 r3.1.length), (8, iv r3.2), (9, accV 3 r5.1.length), (10, iv r5.2), (11, iv 0), (12, .bool false), (13, iv 0), (45, iv (r1.length : Int)), (46, iv 0)])) (h2 := (H7_57 p0 r1 r3 r5)) (Wk.an [2, 3, 4] (.ac (.ac (.ac (.ac (.nil _))))) [accV 2 r1.length, iv (Int.tmod (w64 p2) 3600), accV 3 r3.1.length, iv r3.2, accV 4 r5.1.length, iv r5.2, iv 0, .bool false, iv 0, iv (r1.length : Int), iv 0] (.cons (Rn.acc (nl rfl) rfl) (.fl (.cons (Rn.acc (nl rfl) rfl) (.fl (.cons (Rn.acc (nl rfl) rfl) (.fl (.fl (.fl (.fl (.fl (.fl .nil)))))))))))) (TL.post (L7l0 p0 p2 r1 r3 r5 0 false 0 0 r342 h343) ?_))
 rintro e a1 h1 hp
 rcases r342 with o344 | o345
 · skip
   obtain ⟨rfl, hw⟩ := hp
   refine ⟨(st 244 [(4, .bool false)]), [ab 81 e81 p0], (NX.bkR (NX.sqR ?_)), hw⟩
   have hF := sj hF
   subst hF
   exact ⟨.inr rfl, rfl, .bool false, by kernel_rfl, WkV.flat0 (by kernel_rfl) (nl rfl)⟩
 skip
 obtain ⟨rfl, hw⟩ := hp
 refine ⟨(st 244 [(5, accV 1 r1.length), (6, iv (Int.tmod (w64 p2) 3600)), (7, accV 2 r3.1.length), (8, iv r3.2), (9, accV 3 r5.1.length), (10, iv r5.2), (11, iv o345.1), (12, .bool o345.2.1), (13, iv o345.2.2)]), (H7_57 p0 r1 r3 r5), (NX.bkX (NX.sq (TS.sq (TS.sq ?_)))), hw⟩
 obtain ⟨m347, hm418, hF⟩ := of_do hF
 have hK : NX Try.prog 1 1 [.sq c7.s2.s2.s2.s2.s2.s2.s2.s2.s1.s2, .sq c7.s2.s2.s2.s2.s2.s2.s2.s2.s2] (FinP Try.prog Try.f7 1 (V7 1 r) (N7 1 r)) .normal (st 244 [(5, accV 1 r1.length), (6, iv (Int.tmod (w64 p2) 3600)), (7, accV 2 r3.1.length), (8, iv r3.2), (9, accV 3 r5.1.length), (11, iv o345.1), (12, .bool o345.2.1), (168, .bool m347)]) (H7_57 p0 r1 r3 r5) := by
  refine NX.sq ?_
  cases m347 with
  | true =>
   replace hF := of_pos hF rfl
   refine TS.cdT (.tmp 168) (TS.sq (TS.rg (TI.rn 1 [4] [0] (st 244 [(4, .bool false)]) (H7_66 p0) (TI.dn (NX.sq (TS.rt (NX.sqR ?_)))))))
   have hF := sj hF
   subst hF
   exact ⟨.inr rfl, rfl, .bool false, by kernel_rfl, WkV.flat0 (by kernel_rfl) (nl rfl)⟩
  | false =>
   replace hF := of_neg hF rfl
   refine TS.cdF (.tmp 168) (TS.sk (NX.sq (TS.sq (TS.sq (TS.rg (TI.ra 1 [5, 6, 7, 8, 9, 11, 169] (st 244 [(5, accV 1 r1.length), (6, iv (Int.tmod (w64 p2) 3600)), (7, accV 2 r3.1.length), (8, iv r3.2), (9, accV 3 r5.1.length), (11, iv o345.1), (169, .bool o345.2.1)]) (TI.dn (NX.sq ?_))))))))
   refine TS.cd (.tmp 169) o345.2.1 (fun hc348 => ?_) (fun hc348 => ?_)
   · replace hF := of_pos hF hc348
     refine TS.sq ?_
     obtain ⟨m353, hm354, hF⟩ := of_do hF
     have hK : NX Try.prog 1 1 [.sq c7.s2.s2.s2.s2.s2.s2.s2.s2.s2.s1.s2.th.s2, .sq c7.s2.s2.s2.s2.s2.s2.s2.s2.s2.s2] (FinP Try.prog Try.f7 1 (V7 1 r) (N7 1 r)) .normal (st 244 [(4, .bool m353)]) (H7_66 p0) := by
      refine NX.sq (TS.rt (NX.sqR ?_))
      have hF := sj hF
      subst hF
      exact ⟨.inr rfl, rfl, .bool m353, by kernel_rfl, WkV.flat0 (by kernel_rfl) (nl rfl)⟩
     rcases Bool.eq_false_or_eq_true (r3.2 == 16) with hc349 | hc349
     · replace hm354 := of_pos hm354 hc349
       rcases Bool.eq_false_or_eq_true ((r3.1.length : Int) == 0) with hc350 | hc350
       · replace hm354 := of_pos hm354 hc350
         have hX := of_do hm354
         clear hm354
         obtain ⟨r351, h352, hm354⟩ := hX
         have hm354 := sj hm354
         subst hm354
         refine TS.rg (TI.rn 1 [7, 170] [0, 2] (st 244 [(7, accV 2 r3.1.length), (170, iv r3.2)]) (H7_65 p0 r3) (TI.o { val := .bool true } (q_conv (e := r3.2 == 16) (b := true) (by kernel_rfl) hc349) [7, 171] [0, 2] (st 244 [(7, accV 2 r3.1.length), (171, .bool true)]) (H7_65 p0 r3) (TI.rn 3 [172, 174] [0] (st 244 [(172, .bool true), (174, iv (r3.1.length : Int))]) (H7_66 p0) (TI.o { val := .bool true } (q_conv (e := (r3.1.length : Int) == 0) (b := true) (by kernel_rfl) hc350) [172, 175] [0] (st 244 [(172, .bool true), (175, .bool true)]) (H7_66 p0) (TI.ra 2 [177] (st 244 [(177, .bool true)]) (TI.cf (C15 _ h352) (TI.ra 2 [4] (st 244 [(4, .bool r351)]) (TI.dn ?_))))))))
         exact hK
       replace hm354 := of_neg hm354 hc350
       have hm354 := sj hm354
       subst hm354
       exact TS.rg (TI.rn 1 [7, 170] [0, 2] (st 244 [(7, accV 2 r3.1.length), (170, iv r3.2)]) (H7_65 p0 r3) (TI.o { val := .bool true } (q_conv (e := r3.2 == 16) (b := true) (by kernel_rfl) hc349) [7, 171] [0, 2] (st 244 [(7, accV 2 r3.1.length), (171, .bool true)]) (H7_65 p0 r3) (TI.rn 3 [172, 174] [0] (st 244 [(172, .bool true), (174, iv (r3.1.length : Int))]) (H7_66 p0) (TI.o { val := .bool false } (q_conv (e := (r3.1.length : Int) == 0) (b := false) (by kernel_rfl) hc350) [172, 175] [0] (st 244 [(172, .bool true), (175, .bool false)]) (H7_66 p0) (TI.ra 5 [4] (st 244 [(4, .bool false)]) (TI.dn hK))))))
     replace hm354 := of_neg hm354 hc349
     have hm354 := sj hm354
     subst hm354
     exact TS.rg (TI.rn 1 [7, 170] [0, 2] (st 244 [(7, accV 2 r3.1.length), (170, iv r3.2)]) (H7_65 p0 r3) (TI.o { val := .bool false } (q_conv (e := r3.2 == 16) (b := false) (by kernel_rfl) hc349) [7, 171] [0, 2] (st 244 [(7, accV 2 r3.1.length), (171, .bool false)]) (H7_65 p0 r3) (TI.rn 9 [4] [0] (st 244 [(4, .bool false)]) (H7_66 p0) (TI.dn hK))))
   replace hF := of_neg hF hc348
   refine TS.sk (NX.sq (TS.sq (TS.sq ?_)))
   obtain ⟨m358, hm417, hF⟩ := of_do hF
   have hK : NX Try.prog 1 1 [.sq c7.s2.s2.s2.s2.s2.s2.s2.s2.s2.s2.s1.s2, .sq c7.s2.s2.s2.s2.s2.s2.s2.s2.s2.s2.s2] (FinP Try.prog Try.f7 1 (V7 1 r) (N7 1 r)) .normal (st 244 [(5, accV 1 r1.length), (6, iv (Int.tmod (w64 p2) 3600)), (7, accV 2 r3.1.length), (196, .bool m358)]) (H7_63 p0 r1 r3) := by
    refine NX.sq ?_
    cases m358 with
    | true =>
     replace hF := of_pos hF rfl
     refine TS.cdT (.tmp 196) (TS.sq (TS.rg (TI.rn 1 [4] [0] (st 244 [(4, .bool false)]) (H7_66 p0) (TI.dn (NX.sq (TS.rt (NX.sqR ?_)))))))
     have hF := sj hF
     subst hF
     exact ⟨.inr rfl, rfl, .bool false, by kernel_rfl, WkV.flat0 (by kernel_rfl) (nl rfl)⟩
    | false =>
     replace hF := of_neg hF rfl
     refine TS.cdF (.tmp 196) (TS.sk (NX.sq (TS.sq (TS.sq (TS.rg (TI.ra 3 [5, 6, 7, 197, 198, 199] (S7_59 r1 p2 r3) (TI.dn (NX.sq ?_))))))))
     refine TS.bk 4 ?_
     obtain ⟨r411, h412, hF⟩ := of_do hF
     refine TS.lp (TL.weak (a2 := (S7_59 r1 p2 r3)) (h2 := (H7_64 p0 r1 r3)) (Wk.an [1, 2] (.ac (.ac (.ac (.nil _)))) [accV 1 r1.length, iv (Int.tmod (w64 p2) 3600), accV 2 r3.1.length, accV 2 r3.1.length, iv (r3.1.length : Int), iv 0] (.cons (Rn.acc (nl rfl) rfl) (.fl (.cons (Rn.acc (nl rfl) rfl) (.cons (Rn.acc (nl rfl) rfl) (.fl (.fl .nil))))))) (TL.post (L7l3 p0 p2 r1 r3 0 r411 h412) ?_))
     rintro e a1 h1 hp
     rcases r411 with o413 | o414
     · skip
       obtain ⟨rfl, hw⟩ := hp
       refine ⟨(st 244 [(4, .bool false)]), [ab 81 e81 p0], (NX.bkR (NX.sqR ?_)), hw⟩
       have hF := sj hF
       subst hF
       exact ⟨.inr rfl, rfl, .bool false, by kernel_rfl, WkV.flat0 (by kernel_rfl) (nl rfl)⟩
     skip
     obtain ⟨rfl, hw⟩ := hp
     refine ⟨(st 244 []), [ab 81 e81 p0], (NX.bkX (NX.sq (TS.sq ?_))), hw⟩
     obtain ⟨r415, h416, hF⟩ := of_do hF
     refine TS.rg (TI.cf (C15 _ h416) (TI.ra 1 [4] (st 244 [(4, .bool r415)]) (TI.dn (NX.sq (TS.rt ?_)))))
     have hF := sj hF
     subst hF
     exact ⟨.inr rfl, rfl, .bool r415, by kernel_rfl, WkV.flat0 (by kernel_rfl) (nl rfl)⟩
   rcases Bool.eq_false_or_eq_true (r3.2 != 0) with hc355 | hc355
   · replace hm417 := of_pos hm417 hc355
     have hm417 := sj hm417
     subst hm417
     exact TS.rg (TI.ra 1 [5, 6, 7, 9, 11, 180] (S7_62 r1 p2 r3 r5 o345) (TI.o { val := .bool true } (q_conv (e := r3.2 != 0) (b := true) (by kernel_rfl) hc355) [5, 6, 7, 9, 11, 181] [0, 1, 2, 3] (st 244 [(5, accV 1 r1.length), (6, iv (Int.tmod (w64 p2) 3600)), (7, accV 2 r3.1.length), (9, accV 3 r5.1.length), (11, iv o345.1), (181, .bool true)]) (H7_57 p0 r1 r3 r5) (TI.rn 15 [5, 6, 7, 196] [0, 1, 2] (st 244 [(5, accV 1 r1.length), (6, iv (Int.tmod (w64 p2) 3600)), (7, accV 2 r3.1.length), (196, .bool true)]) (H7_63 p0 r1 r3) (TI.dn hK))))
   replace hm417 := of_neg hm417 hc355
   rcases Bool.eq_false_or_eq_true ((r3.1.length : Int) != o345.1) with hc356 | hc356
   · replace hm417 := of_pos hm417 hc356
     have hm417 := sj hm417
     subst hm417
     exact TS.rg (TI.ra 1 [5, 6, 7, 9, 11, 180] (S7_62 r1 p2 r3 r5 o345) (TI.o { val := .bool false } (q_conv (e := r3.2 != 0) (b := false) (by kernel_rfl) hc355) [5, 6, 7, 9, 11, 181] [0, 1, 2, 3] (S7_61 r1 p2 r3 r5 o345) (H7_57 p0 r1 r3 r5) (TI.ra 4 [5, 6, 7, 9, 11, 182, 184, 185] (S7_53 r1 p2 r3 r5 o345) (TI.o { val := .bool true } (q_conv (e := (r3.1.length : Int) != o345.1) (b := true) (by kernel_rfl) hc356) [5, 6, 7, 9, 11, 182, 186] [0, 1, 2, 3] (st 244 [(5, accV 1 r1.length), (6, iv (Int.tmod (w64 p2) 3600)), (7, accV 2 r3.1.length), (9, accV 3 r5.1.length), (11, iv o345.1), (182, .bool false), (186, .bool true)]) (H7_57 p0 r1 r3 r5) (TI.rn 10 [5, 6, 7, 196] [0, 1, 2] (st 244 [(5, accV 1 r1.length), (6, iv (Int.tmod (w64 p2) 3600)), (7, accV 2 r3.1.length), (196, .bool true)]) (H7_63 p0 r1 r3) (TI.dn hK))))))
   replace hm417 := of_neg hm417 hc356
   rcases Bool.eq_false_or_eq_true ((r5.1.length : Int) == 0) with hc357 | hc357
   · replace hm417 := of_pos hm417 hc357
     have hm417 := sj hm417
     subst hm417
     refine TS.rg (TI.ra 1 [5, 6, 7, 9, 11, 180] (S7_62 r1 p2 r3 r5 o345) (TI.o { val := .bool false } (q_conv (e := r3.2 != 0) (b := false) (by kernel_rfl) hc355) [5, 6, 7, 9, 11, 181] [0, 1, 2, 3] (S7_61 r1 p2 r3 r5 o345) (H7_57 p0 r1 r3 r5) (TI.ra 4 [5, 6, 7, 9, 11, 182, 184, 185] (S7_53 r1 p2 r3 r5 o345) (TI.o { val := .bool false } (q_conv (e := (r3.1.length : Int) != o345.1) (b := false) (by kernel_rfl) hc356) [5, 6, 7, 9, 11, 182, 186] [0, 1, 2, 3] (st 244 [(5, accV 1 r1.length), (6, iv (Int.tmod (w64 p2) 3600)), (7, accV 2 r3.1.length), (9, accV 3 r5.1.length), (11, iv o345.1), (182, .bool false), (186, .bool false)]) (H7_57 p0 r1 r3 r5) (TI.rn 4 [5, 6, 7, 11, 188, 190] [0, 1, 2] (st 244 [(5, accV 1 r1.length), (6, iv (Int.tmod (w64 p2) 3600)), (7, accV 2 r3.1.length), (11, iv o345.1), (188, .bool false), (190, iv (r5.1.length : Int))]) (H7_63 p0 r1 r3) (TI.o { val := .bool true } (q_conv (e := (r5.1.length : Int) == 0) (b := true) (by kernel_rfl) hc357) [5, 6, 7, 11, 188, 191] [0, 1, 2] (st 244 [(5, accV 1 r1.length), (6, iv (Int.tmod (w64 p2) 3600)), (7, accV 2 r3.1.length), (11, iv o345.1), (188, .bool false), (191, .bool true)]) (H7_63 p0 r1 r3) (TI.ra 5 [5, 6, 7, 196] (st 244 [(5, accV 1 r1.length), (6, iv (Int.tmod (w64 p2) 3600)), (7, accV 2 r3.1.length), (196, .bool (o345.1 != 1))]) (TI.dn ?_))))))))
     exact hK
   replace hm417 := of_neg hm417 hc357
   have hm417 := sj hm417
   subst hm417
   refine TS.rg (TI.ra 1 [5, 6, 7, 9, 11, 180] (S7_62 r1 p2 r3 r5 o345) (TI.o { val := .bool false } (q_conv (e := r3.2 != 0) (b := false) (by kernel_rfl) hc355) [5, 6, 7, 9, 11, 181] [0, 1, 2, 3] (S7_61 r1 p2 r3 r5 o345) (H7_57 p0 r1 r3 r5) (TI.ra 4 [5, 6, 7, 9, 11, 182, 184, 185] (S7_53 r1 p2 r3 r5 o345) (TI.o { val := .bool false } (q_conv (e := (r3.1.length : Int) != o345.1) (b := false) (by kernel_rfl) hc356) [5, 6, 7, 9, 11, 182, 186] [0, 1, 2, 3] (st 244 [(5, accV 1 r1.length), (6, iv (Int.tmod (w64 p2) 3600)), (7, accV 2 r3.1.length), (9, accV 3 r5.1.length), (11, iv o345.1), (182, .bool false), (186, .bool false)]) (H7_57 p0 r1 r3 r5) (TI.rn 4 [5, 6, 7, 11, 188, 190] [0, 1, 2] (st 244 [(5, accV 1 r1.length), (6, iv (Int.tmod (w64 p2) 3600)), (7, accV 2 r3.1.length), (11, iv o345.1), (188, .bool false), (190, iv (r5.1.length : Int))]) (H7_63 p0 r1 r3) (TI.o { val := .bool false } (q_conv (e := (r5.1.length : Int) == 0) (b := false) (by kernel_rfl) hc357) [5, 6, 7, 11, 188, 191] [0, 1, 2] (st 244 [(5, accV 1 r1.length), (6, iv (Int.tmod (w64 p2) 3600)), (7, accV 2 r3.1.length), (11, iv o345.1), (188, .bool false), (191, .bool false)]) (H7_63 p0 r1 r3) (TI.ra 5 [5, 6, 7, 196] (st 244 [(5, accV 1 r1.length), (6, iv (Int.tmod (w64 p2) 3600)), (7, accV 2 r3.1.length), (196, .bool false)]) (TI.dn ?_))))))))
   exact hK
 rcases Bool.eq_false_or_eq_true (r5.2 != 0) with hc346 | hc346
 · replace hm418 := of_pos hm418 hc346
   have hm418 := sj hm418
   subst hm418
   exact TS.rg (TI.ra 1 [5, 6, 7, 8, 9, 11, 12, 13, 161] (st 244 [(5, accV 1 r1.length), (6, iv (Int.tmod (w64 p2) 3600)), (7, accV 2 r3.1.length), (8, iv r3.2), (9, accV 3 r5.1.length), (11, iv o345.1), (12, .bool o345.2.1), (13, iv o345.2.2), (161, iv r5.2)]) (TI.o { val := .bool true } (q_conv (e := r5.2 != 0) (b := true) (by kernel_rfl) hc346) [5, 6, 7, 8, 9, 11, 12, 13, 162] [0, 1, 2, 3] (st 244 [(5, accV 1 r1.length), (6, iv (Int.tmod (w64 p2) 3600)), (7, accV 2 r3.1.length), (8, iv r3.2), (9, accV 3 r5.1.length), (11, iv o345.1), (12, .bool o345.2.1), (13, iv o345.2.2), (162, .bool true)]) (H7_57 p0 r1 r3 r5) (TI.ra 6 [5, 6, 7, 8, 9, 11, 12, 168] (st 244 [(5, accV 1 r1.length), (6, iv (Int.tmod (w64 p2) 3600)), (7, accV 2 r3.1.length), (8, iv r3.2), (9, accV 3 r5.1.length), (11, iv o345.1), (12, .bool o345.2.1), (168, .bool true)]) (TI.dn hK))))
 replace hm418 := of_neg hm418 hc346
 have hm418 := sj hm418
 subst hm418
 exact TS.rg (TI.ra 1 [5, 6, 7, 8, 9, 11, 12, 13, 161] (st 244 [(5, accV 1 r1.length), (6, iv (Int.tmod (w64 p2) 3600)), (7, accV 2 r3.1.length), (8, iv r3.2), (9, accV 3 r5.1.length), (11, iv o345.1), (12, .bool o345.2.1), (13, iv o345.2.2), (161, iv r5.2)]) (TI.o { val := .bool false } (q_conv (e := r5.2 != 0) (b := false) (by kernel_rfl) hc346) [5, 6, 7, 8, 9, 11, 12, 13, 162] [0, 1, 2, 3] (st 244 [(5, accV 1 r1.length), (6, iv (Int.tmod (w64 p2) 3600)), (7, accV 2 r3.1.length), (8, iv r3.2), (9, accV 3 r5.1.length), (11, iv o345.1), (12, .bool o345.2.1), (13, iv o345.2.2), (162, .bool false)]) (H7_57 p0 r1 r3 r5) (TI.ra 6 [5, 6, 7, 8, 9, 11, 12, 168] (st 244 [(5, accV 1 r1.length), (6, iv (Int.tmod (w64 p2) 3600)), (7, accV 2 r3.1.length), (8, iv r3.2), (9, accV 3 r5.1.length), (11, iv o345.1), (12, .bool o345.2.1), (168, .bool (o345.2.2 != (r5.1.length : Int)))]) (TI.dn hK))))
theorem C7 (p0 : List I2) (p1 p2 : Int) (r : Bool) (hF : F7 p0 p1 p2 = some r) : PureSim Try.prog 7 [ag [sv 0 p0.length ANY, .int .u8 p1], .int .u16 p2] [ab 81 e81 p0] (V7 1 r) (N7 1 r) :=
 PureSim.of_Fin Try.func7 (c := c7) (by kernel_rfl) (by kernel_rfl) 1 rfl [0, 1] [0] (by kernel_rfl) (B7 p0 p1 p2 r hF)
end
end Go.Proofs.Ythpfffijnkmdgaa
