/- What functions of the program compute, and that they do. -/
import Derived.Test.YtdekbjfjbbdjgaaGWa
set_option linter.unusedVariables false
set_option linter.unusedSimpArgs false
set_option maxRecDepth 100000
set_option maxHeartbeats 4000000
namespace Go.Proofs.Ytdekbjfjbbdjgaa
open Go Go.Cl
noncomputable section
noncomputable def c48 : Code := Try.f48.code
def S48_0 (p0 : Int) (p1 : Int) (v1229 : (List Int)) (v1230 : (List Int)) (v451 : Int) (v1041 : Int) (v1228 : Int) (o1274 : (Int × Int)) (o1323 : Int) : CAct := (st 131 [(1, pt 1 0), (4, iv (w64 (p0 + p1))), (5, mkV 2 v1229.length), (6, mkV 3 v1230.length), (8, iv v451), (9, iv v1041), (10, iv v1228), (11, pt 4 0), (12, iv (Int.tmod o1274.1 p0)), (13, iv (w64 (p0 + (Int.tmod o1274.1 p1)))), (87, .bool true), (88, mkV 2 v1229.length), (89, iv (w64 (p0 + (Int.tmod o1274.1 p1)))), (90, mkV 3 v1230.length), (91, iv (w64 (p0 + (Int.tmod o1274.1 p1)))), (92, iv v451), (93, pt 4 1), (94, iv o1274.2), (95, mkV 3 v1230.length), (96, iv (Int.tmod o1274.1 p0)), (97, .pointer (some ⟨3, 0 + (Int.toNat (Int.tmod o1274.1 p0)) * 1, none⟩)), (98, iv o1323), (99, iv (w64 (o1274.2 - o1323))), (100, .pointer (some ⟨2, 0 + (Int.toNat (w64 (p0 + (Int.tmod o1274.1 p1)))) * 1, none⟩)), (101, .pointer (some ⟨3, 0 + (Int.toNat (w64 (p0 + (Int.tmod o1274.1 p1)))) * 1, none⟩))])
def S48_1 (p0 : Int) (p1 : Int) (m1295 : ((List Int) × (List Int))) (v451 : Int) (v1041 : Int) (v1228 : Int) (o1274 : (Int × Int)) (o1317 : Int) : CAct := (st 131 [(1, pt 1 0), (4, iv (w64 (p0 + p1))), (5, mkV 2 m1295.1.length), (6, mkV 3 m1295.2.length), (8, iv v451), (9, iv v1041), (10, iv v1228), (11, pt 4 0), (12, iv (Int.tmod o1274.1 p0)), (13, iv (w64 (p0 + (Int.tmod o1274.1 p1)))), (114, .bool true), (115, mkV 2 m1295.1.length), (116, iv (Int.tmod o1274.1 p0)), (117, mkV 3 m1295.2.length), (118, iv (Int.tmod o1274.1 p0)), (119, iv v451), (120, pt 4 1), (121, iv o1274.2), (122, mkV 3 m1295.2.length), (123, iv (w64 (p0 + (Int.tmod o1274.1 p1)))), (124, .pointer (some ⟨3, 0 + (Int.toNat (w64 (p0 + (Int.tmod o1274.1 p1)))) * 1, none⟩)), (125, iv o1317), (126, iv (w64 (o1274.2 - o1317))), (127, .pointer (some ⟨2, 0 + (Int.toNat (Int.tmod o1274.1 p0)) * 1, none⟩)), (128, .pointer (some ⟨3, 0 + (Int.toNat (Int.tmod o1274.1 p0)) * 1, none⟩))])
def S48_2 (p0 : Int) (p1 : Int) (m1295 : ((List Int) × (List Int))) (v451 : Int) (v1041 : Int) (v1228 : Int) (o1274 : (Int × Int)) (o1317 : Int) : CAct := (st 131 [(1, pt 1 0), (4, iv (w64 (p0 + p1))), (5, mkV 2 m1295.1.length), (6, mkV 3 m1295.2.length), (8, iv v451), (9, iv v1041), (10, iv v1228), (11, pt 4 0), (12, iv (Int.tmod o1274.1 p0)), (13, iv (w64 (p0 + (Int.tmod o1274.1 p1)))), (114, .bool true), (115, mkV 2 m1295.1.length), (116, iv (Int.tmod o1274.1 p0)), (117, mkV 3 m1295.2.length), (118, iv (Int.tmod o1274.1 p0)), (119, iv v451), (120, pt 4 1), (121, iv o1274.2), (122, mkV 3 m1295.2.length), (123, iv (w64 (p0 + (Int.tmod o1274.1 p1)))), (124, .pointer (some ⟨3, 0 + (Int.toNat (w64 (p0 + (Int.tmod o1274.1 p1)))) * 1, none⟩)), (125, iv o1317), (126, iv (w64 (o1274.2 - o1317))), (127, .pointer (some ⟨2, 0 + (Int.toNat (Int.tmod o1274.1 p0)) * 1, none⟩))])
def S48_3 (p0 : Int) (p1 : Int) (v1229 : (List Int)) (v1230 : (List Int)) (v451 : Int) (v1041 : Int) (v1228 : Int) (o1274 : (Int × Int)) (o1323 : Int) : CAct := (st 131 [(1, pt 1 0), (4, iv (w64 (p0 + p1))), (5, mkV 2 v1229.length), (6, mkV 3 v1230.length), (8, iv v451), (9, iv v1041), (10, iv v1228), (11, pt 4 0), (12, iv (Int.tmod o1274.1 p0)), (13, iv (w64 (p0 + (Int.tmod o1274.1 p1)))), (87, .bool true), (88, mkV 2 v1229.length), (89, iv (w64 (p0 + (Int.tmod o1274.1 p1)))), (90, mkV 3 v1230.length), (91, iv (w64 (p0 + (Int.tmod o1274.1 p1)))), (92, iv v451), (93, pt 4 1), (94, iv o1274.2), (95, mkV 3 v1230.length), (96, iv (Int.tmod o1274.1 p0)), (97, .pointer (some ⟨3, 0 + (Int.toNat (Int.tmod o1274.1 p0)) * 1, none⟩)), (98, iv o1323), (99, iv (w64 (o1274.2 - o1323))), (100, .pointer (some ⟨2, 0 + (Int.toNat (w64 (p0 + (Int.tmod o1274.1 p1)))) * 1, none⟩))])
def S48_4 (p0 : Int) (p1 : Int) (m1295 : ((List Int) × (List Int))) (v451 : Int) (v1041 : Int) (v1228 : Int) (o1274 : (Int × Int)) (o1317 : Int) : CAct := (st 131 [(1, pt 1 0), (4, iv (w64 (p0 + p1))), (5, mkV 2 m1295.1.length), (6, mkV 3 m1295.2.length), (8, iv v451), (9, iv v1041), (10, iv v1228), (11, pt 4 0), (12, iv (Int.tmod o1274.1 p0)), (13, iv (w64 (p0 + (Int.tmod o1274.1 p1)))), (114, .bool true), (115, mkV 2 m1295.1.length), (116, iv (Int.tmod o1274.1 p0)), (117, mkV 3 m1295.2.length), (118, iv (Int.tmod o1274.1 p0)), (119, iv v451), (120, pt 4 1), (121, iv o1274.2), (122, mkV 3 m1295.2.length), (123, iv (w64 (p0 + (Int.tmod o1274.1 p1)))), (124, .pointer (some ⟨3, 0 + (Int.toNat (w64 (p0 + (Int.tmod o1274.1 p1)))) * 1, none⟩)), (125, iv o1317), (126, iv (w64 (o1274.2 - o1317)))])
def S48_5 (p0 : Int) (p1 : Int) (v1229 : (List Int)) (v1230 : (List Int)) (v451 : Int) (v1041 : Int) (v1228 : Int) (o1274 : (Int × Int)) (o1323 : Int) : CAct := (st 131 [(1, pt 1 0), (4, iv (w64 (p0 + p1))), (5, mkV 2 v1229.length), (6, mkV 3 v1230.length), (8, iv v451), (9, iv v1041), (10, iv v1228), (11, pt 4 0), (12, iv (Int.tmod o1274.1 p0)), (13, iv (w64 (p0 + (Int.tmod o1274.1 p1)))), (87, .bool true), (88, mkV 2 v1229.length), (89, iv (w64 (p0 + (Int.tmod o1274.1 p1)))), (90, mkV 3 v1230.length), (91, iv (w64 (p0 + (Int.tmod o1274.1 p1)))), (92, iv v451), (93, pt 4 1), (94, iv o1274.2), (95, mkV 3 v1230.length), (96, iv (Int.tmod o1274.1 p0)), (97, .pointer (some ⟨3, 0 + (Int.toNat (Int.tmod o1274.1 p0)) * 1, none⟩)), (98, iv o1323), (99, iv (w64 (o1274.2 - o1323)))])
def S48_6 (p0 : Int) (p1 : Int) (m1295 : ((List Int) × (List Int))) (v451 : Int) (v1041 : Int) (v1228 : Int) (o1274 : (Int × Int)) (o1317 : Int) : CAct := (st 131 [(1, pt 1 0), (4, iv (w64 (p0 + p1))), (5, mkV 2 m1295.1.length), (6, mkV 3 m1295.2.length), (8, iv v451), (9, iv v1041), (10, iv v1228), (11, pt 4 0), (12, iv (Int.tmod o1274.1 p0)), (13, iv (w64 (p0 + (Int.tmod o1274.1 p1)))), (114, .bool true), (115, mkV 2 m1295.1.length), (116, iv (Int.tmod o1274.1 p0)), (117, mkV 3 m1295.2.length), (118, iv (Int.tmod o1274.1 p0)), (119, iv v451), (120, pt 4 1), (121, iv o1274.2), (122, mkV 3 m1295.2.length), (123, iv (w64 (p0 + (Int.tmod o1274.1 p1)))), (124, .pointer (some ⟨3, 0 + (Int.toNat (w64 (p0 + (Int.tmod o1274.1 p1)))) * 1, none⟩)), (125, iv o1317)])
def S48_7 (p0 : Int) (p1 : Int) (m1295 : ((List Int) × (List Int))) (v451 : Int) (v1041 : Int) (v1228 : Int) (o1274 : (Int × Int)) : CAct := (st 131 [(1, pt 1 0), (4, iv (w64 (p0 + p1))), (5, mkV 2 m1295.1.length), (6, mkV 3 m1295.2.length), (8, iv v451), (9, iv v1041), (10, iv v1228), (11, pt 4 0), (12, iv (Int.tmod o1274.1 p0)), (13, iv (w64 (p0 + (Int.tmod o1274.1 p1)))), (114, .bool true), (115, mkV 2 m1295.1.length), (116, iv (Int.tmod o1274.1 p0)), (117, mkV 3 m1295.2.length), (118, iv (Int.tmod o1274.1 p0)), (119, iv v451), (120, pt 4 1), (121, iv o1274.2), (122, mkV 3 m1295.2.length), (123, iv (w64 (p0 + (Int.tmod o1274.1 p1)))), (124, .pointer (some ⟨3, 0 + (Int.toNat (w64 (p0 + (Int.tmod o1274.1 p1)))) * 1, none⟩))])
def S48_8 (p0 : Int) (p1 : Int) (v1229 : (List Int)) (v1230 : (List Int)) (v451 : Int) (v1041 : Int) (v1228 : Int) (o1274 : (Int × Int)) (o1323 : Int) : CAct := (st 131 [(1, pt 1 0), (4, iv (w64 (p0 + p1))), (5, mkV 2 v1229.length), (6, mkV 3 v1230.length), (8, iv v451), (9, iv v1041), (10, iv v1228), (11, pt 4 0), (12, iv (Int.tmod o1274.1 p0)), (13, iv (w64 (p0 + (Int.tmod o1274.1 p1)))), (87, .bool true), (88, mkV 2 v1229.length), (89, iv (w64 (p0 + (Int.tmod o1274.1 p1)))), (90, mkV 3 v1230.length), (91, iv (w64 (p0 + (Int.tmod o1274.1 p1)))), (92, iv v451), (93, pt 4 1), (94, iv o1274.2), (95, mkV 3 v1230.length), (96, iv (Int.tmod o1274.1 p0)), (97, .pointer (some ⟨3, 0 + (Int.toNat (Int.tmod o1274.1 p0)) * 1, none⟩)), (98, iv o1323)])
def S48_9 (p0 : Int) (p1 : Int) (v1229 : (List Int)) (v1230 : (List Int)) (v451 : Int) (v1041 : Int) (v1228 : Int) (o1274 : (Int × Int)) : CAct := (st 131 [(1, pt 1 0), (4, iv (w64 (p0 + p1))), (5, mkV 2 v1229.length), (6, mkV 3 v1230.length), (8, iv v451), (9, iv v1041), (10, iv v1228), (11, pt 4 0), (12, iv (Int.tmod o1274.1 p0)), (13, iv (w64 (p0 + (Int.tmod o1274.1 p1)))), (87, .bool true), (88, mkV 2 v1229.length), (89, iv (w64 (p0 + (Int.tmod o1274.1 p1)))), (90, mkV 3 v1230.length), (91, iv (w64 (p0 + (Int.tmod o1274.1 p1)))), (92, iv v451), (93, pt 4 1), (94, iv o1274.2), (95, mkV 3 v1230.length), (96, iv (Int.tmod o1274.1 p0)), (97, .pointer (some ⟨3, 0 + (Int.toNat (Int.tmod o1274.1 p0)) * 1, none⟩))])
def S48_10 (p0 : Int) (p1 : Int) (m1295 : ((List Int) × (List Int))) (v451 : Int) (v1041 : Int) (v1228 : Int) (o1274 : (Int × Int)) : CAct := (st 131 [(1, pt 1 0), (4, iv (w64 (p0 + p1))), (5, mkV 2 m1295.1.length), (6, mkV 3 m1295.2.length), (8, iv v451), (9, iv v1041), (10, iv v1228), (11, pt 4 0), (12, iv (Int.tmod o1274.1 p0)), (13, iv (w64 (p0 + (Int.tmod o1274.1 p1)))), (114, .bool true), (115, mkV 2 m1295.1.length), (116, iv (Int.tmod o1274.1 p0)), (117, mkV 3 m1295.2.length), (118, iv (Int.tmod o1274.1 p0)), (119, iv v451), (120, pt 4 1), (121, iv o1274.2), (122, mkV 3 m1295.2.length), (123, iv (w64 (p0 + (Int.tmod o1274.1 p1))))])
def S48_11 (p0 : Int) (p1 : Int) (v1229 : (List Int)) (v1230 : (List Int)) (v451 : Int) (v1041 : Int) (v1228 : Int) (o1274 : (Int × Int)) : CAct := (st 131 [(1, pt 1 0), (4, iv (w64 (p0 + p1))), (5, mkV 2 v1229.length), (6, mkV 3 v1230.length), (8, iv v451), (9, iv v1041), (10, iv v1228), (11, pt 4 0), (12, iv (Int.tmod o1274.1 p0)), (13, iv (w64 (p0 + (Int.tmod o1274.1 p1)))), (87, .bool true), (88, mkV 2 v1229.length), (89, iv (w64 (p0 + (Int.tmod o1274.1 p1)))), (90, mkV 3 v1230.length), (91, iv (w64 (p0 + (Int.tmod o1274.1 p1)))), (92, iv v451), (93, pt 4 1), (94, iv o1274.2), (95, mkV 3 v1230.length), (96, iv (Int.tmod o1274.1 p0))])
def H48_12 (p2 : (List (Int × Int))) (p0 : Int) (p1 : Int) (v1229 : (List Int)) (o1274 : (Int × Int)) (v451 : Int) (v1230 : (List Int)) (o1323 : Int) : List Blk := [ab 72 e72 p2, cl 28 [iv p0, iv p1, sv 0 p2.length ANY], .cells 3 (List.flatMap e3 (List.set v1229 (Int.toNat (w64 (p0 + (Int.tmod o1274.1 p1)))) v451)), .cells 3 (List.flatMap e3 (List.set v1230 (Int.toNat (w64 (p0 + (Int.tmod o1274.1 p1)))) (w64 (o1274.2 - o1323)))), cl 72 [iv o1274.1, iv o1274.2]]
def H48_13 (p2 : (List (Int × Int))) (p0 : Int) (p1 : Int) (m1295 : ((List Int) × (List Int))) (o1274 : (Int × Int)) (v451 : Int) (o1317 : Int) : List Blk := [ab 72 e72 p2, cl 28 [iv p0, iv p1, sv 0 p2.length ANY], .cells 3 (List.flatMap e3 (List.set m1295.1 (Int.toNat (Int.tmod o1274.1 p0)) v451)), .cells 3 (List.flatMap e3 (List.set m1295.2 (Int.toNat (Int.tmod o1274.1 p0)) (w64 (o1274.2 - o1317)))), cl 72 [iv o1274.1, iv o1274.2]]
def S48_14 (p0 : Int) (p1 : Int) (m1295 : ((List Int) × (List Int))) (v451 : Int) (v1041 : Int) (v1228 : Int) (o1274 : (Int × Int)) : CAct := (st 131 [(1, pt 1 0), (4, iv (w64 (p0 + p1))), (5, mkV 2 m1295.1.length), (6, mkV 3 m1295.2.length), (8, iv v451), (9, iv v1041), (10, iv v1228), (11, pt 4 0), (12, iv (Int.tmod o1274.1 p0)), (13, iv (w64 (p0 + (Int.tmod o1274.1 p1)))), (104, .pointer (some ⟨2, 0 + (Int.toNat (w64 (p0 + (Int.tmod o1274.1 p1)))) * 1, none⟩))])
def S48_15 (p0 : Int) (p1 : Int) (m1295 : ((List Int) × (List Int))) (v451 : Int) (v1041 : Int) (v1228 : Int) (o1274 : (Int × Int)) : CAct := (st 131 [(1, pt 1 0), (4, iv (w64 (p0 + p1))), (5, mkV 2 m1295.1.length), (6, mkV 3 m1295.2.length), (8, iv v451), (9, iv v1041), (10, iv v1228), (11, pt 4 0), (12, iv (Int.tmod o1274.1 p0)), (13, iv (w64 (p0 + (Int.tmod o1274.1 p1)))), (102, mkV 2 m1295.1.length), (103, iv (w64 (p0 + (Int.tmod o1274.1 p1))))])
def S48_16 (p0 : Int) (p1 : Int) (v1229 : (List Int)) (v1230 : (List Int)) (v451 : Int) (v1041 : Int) (v1228 : Int) (o1274 : (Int × Int)) : CAct := (st 131 [(1, pt 1 0), (4, iv (w64 (p0 + p1))), (5, mkV 2 v1229.length), (6, mkV 3 v1230.length), (8, iv v451), (9, iv v1041), (10, iv v1228), (11, pt 4 0), (12, iv (Int.tmod o1274.1 p0)), (13, iv (w64 (p0 + (Int.tmod o1274.1 p1)))), (77, .pointer (some ⟨2, 0 + (Int.toNat (Int.tmod o1274.1 p0)) * 1, none⟩))])
def S48_17 (p0 : Int) (p1 : Int) (v1229 : (List Int)) (v1230 : (List Int)) (v451 : Int) (v1041 : Int) (v1228 : Int) (o1274 : (Int × Int)) : CAct := (st 131 [(1, pt 1 0), (4, iv (w64 (p0 + p1))), (5, mkV 2 v1229.length), (6, mkV 3 v1230.length), (8, iv v451), (9, iv v1041), (10, iv v1228), (11, pt 4 0), (12, iv (Int.tmod o1274.1 p0)), (13, iv (w64 (p0 + (Int.tmod o1274.1 p1)))), (75, mkV 2 v1229.length), (76, iv (Int.tmod o1274.1 p0))])
def H48_18 (p2 : (List (Int × Int))) (p0 : Int) (p1 : Int) : List Blk := [ab 72 e72 p2, cl 28 [iv p0, iv p1, sv 0 p2.length ANY], .cells 3 (List.flatMap e3 (List.replicate (Int.toNat (w64 (p0 + p1))) (0 : Int))), .cells 3 (List.flatMap e3 (List.replicate (Int.toNat (w64 (p0 + p1))) (0 : Int)))]
def H48_19 (p2 : (List (Int × Int))) (p0 : Int) (p1 : Int) (v1229 : (List Int)) (o1274 : (Int × Int)) (v451 : Int) (v1230 : (List Int)) : List Blk := [ab 72 e72 p2, cl 28 [iv p0, iv p1, sv 0 p2.length ANY], .cells 3 (List.flatMap e3 (List.set v1229 (Int.toNat (w64 (p0 + (Int.tmod o1274.1 p1)))) v451)), .cells 3 (List.flatMap e3 v1230), cl 72 [iv o1274.1, iv o1274.2]]
def H48_20 (p2 : (List (Int × Int))) (p0 : Int) (p1 : Int) (m1295 : ((List Int) × (List Int))) (o1274 : (Int × Int)) (v451 : Int) : List Blk := [ab 72 e72 p2, cl 28 [iv p0, iv p1, sv 0 p2.length ANY], .cells 3 (List.flatMap e3 (List.set m1295.1 (Int.toNat (Int.tmod o1274.1 p0)) v451)), .cells 3 (List.flatMap e3 m1295.2), cl 72 [iv o1274.1, iv o1274.2]]
def H48_21 (p2 : (List (Int × Int))) (p0 : Int) (p1 : Int) (v5 : (List Int)) (v4 : Int) : List Blk := [ab 72 e72 p2, cl 28 [iv p0, iv p1, sv 0 p2.length ANY], .cells 3 (List.flatMap e3 (List.set v5 (Int.toNat v4) (-1))), .cells 3 (List.flatMap e3 (List.replicate (Int.toNat (w64 (p0 + p1))) (0 : Int)))]
def H48_22 (p2 : (List (Int × Int))) (p0 : Int) (p1 : Int) (r11 : (List Int)) : List Blk := [ab 72 e72 p2, cl 28 [iv p0, iv p1, sv 0 p2.length ANY], .cells 3 (List.flatMap e3 r11), .cells 3 (List.flatMap e3 (List.replicate (Int.toNat (w64 (p0 + p1))) (0 : Int)))]
def H48_23 (p2 : (List (Int × Int))) (p0 : Int) (p1 : Int) (v5 : (List Int)) : List Blk := [ab 72 e72 p2, cl 28 [iv p0, iv p1, sv 0 p2.length ANY], .cells 3 (List.flatMap e3 v5), .cells 3 (List.flatMap e3 (List.replicate (Int.toNat (w64 (p0 + p1))) (0 : Int)))]
def H48_24 (p2 : (List (Int × Int))) (p0 : Int) (p1 : Int) (m1295 : ((List Int) × (List Int))) (o1274 : (Int × Int)) : List Blk := [ab 72 e72 p2, cl 28 [iv p0, iv p1, sv 0 p2.length ANY], .cells 3 (List.flatMap e3 m1295.1), .cells 3 (List.flatMap e3 m1295.2), cl 72 [iv o1274.1, iv o1274.2]]
def S48_25 (p0 : Int) (p1 : Int) : CAct := (st 131 [(1, pt 1 0), (4, iv (w64 (p0 + p1))), (5, mkV 2 (List.length (List.replicate (Int.toNat (w64 (p0 + p1))) (0 : Int)))), (6, mkV 3 (List.length (List.replicate (Int.toNat (w64 (p0 + p1))) (0 : Int)))), (7, iv 0)])
def H48_26 (p2 : (List (Int × Int))) (p0 : Int) (p1 : Int) (v1229 : (List Int)) (v1230 : (List Int)) (o1274 : (Int × Int)) : List Blk := [ab 72 e72 p2, cl 28 [iv p0, iv p1, sv 0 p2.length ANY], .cells 3 (List.flatMap e3 v1229), .cells 3 (List.flatMap e3 v1230), cl 72 [iv o1274.1, iv o1274.2]]
def H48_27 (p2 : (List (Int × Int))) (p0 : Int) (p1 : Int) (v1229 : (List Int)) (v1230 : (List Int)) : List Blk := [ab 72 e72 p2, cl 28 [iv p0, iv p1, sv 0 p2.length ANY], .cells 3 (List.flatMap e3 v1229), .cells 3 (List.flatMap e3 v1230)]
def H48_28 (p2 : (List (Int × Int))) (p0 : Int) (p1 : Int) (v1042 : (List Int)) (v1043 : (List Int)) : List Blk := [ab 72 e72 p2, cl 28 [iv p0, iv p1, sv 0 p2.length ANY], .cells 3 (List.flatMap e3 v1042), .cells 3 (List.flatMap e3 v1043)]
def H48_29 (p2 : (List (Int × Int))) (p0 : Int) (p1 : Int) (v452 : (List Int)) (v453 : (List Int)) : List Blk := [ab 72 e72 p2, cl 28 [iv p0, iv p1, sv 0 p2.length ANY], .cells 3 (List.flatMap e3 v452), .cells 3 (List.flatMap e3 v453)]
def S48_30 (p0 : Int) (p1 : Int) (v5 : (List Int)) (v4 : Int) : CAct := (st 131 [(1, pt 1 0), (4, iv (w64 (p0 + p1))), (5, mkV 2 v5.length), (6, mkV 3 (List.length (List.replicate (Int.toNat (w64 (p0 + p1))) (0 : Int)))), (7, iv v4)])
def S48_31 (p0 : Int) (p1 : Int) (r11 : (List Int)) : CAct := (st 131 [(1, pt 1 0), (4, iv (w64 (p0 + p1))), (5, mkV 2 r11.length), (6, mkV 3 (List.length (List.replicate (Int.toNat (w64 (p0 + p1))) (0 : Int)))), (8, iv 0)])
def S48_32 (p0 : Int) (p1 : Int) (v452 : (List Int)) (v453 : (List Int)) (v451 : Int) : CAct := (st 131 [(1, pt 1 0), (4, iv (w64 (p0 + p1))), (5, mkV 2 v452.length), (6, mkV 3 v453.length), (8, iv v451)])
def F48l0 (p0 : Int) (p1 : Int) (p2 : (List (Int × Int))) (v4 : Int) (v5 : (List Int)) : Option (List Int) :=
    if decide (v4 < (w64 (p0 + p1))) then
      if (0 : Int) ≤ v4 ∧ v4 < (v5.length : Int) then
        F48l0 p0 p1 p2 (w64 (v4 + 1)) (List.set v5 (Int.toNat v4) (-1))
      else none
    else
      some v5
  partial_fixpoint
def F48l3 (p0 : Int) (p1 : Int) (p2 : (List (Int × Int))) (v451 : Int) (v1041 : Int) (v1228 : Int) (v1229 : (List Int)) (v1230 : (List Int)) : Option ((List Int) × (List Int)) :=
    if decide (v1228 < (p2.length : Int)) then
      if (0 : Int) ≤ v1228 ∧ v1228 < (p2.length : Int) then
        some (List.getD p2 (Int.toNat v1228) (0, 0)) >>= fun o1274 =>
        if p0 = 0 then none else
        if p1 = 0 then none else
        if (0 : Int) ≤ Int.tmod o1274.1 p0 ∧ Int.tmod o1274.1 p0 < (v1229.length : Int) then
          some (List.getD v1229 (Int.toNat (Int.tmod o1274.1 p0)) 0) >>= fun o1279 =>
          (
            if o1279 == v451 then
              if (0 : Int) ≤ w64 (p0 + (Int.tmod o1274.1 p1)) ∧ w64 (p0 + (Int.tmod o1274.1 p1)) < (v1229.length : Int) then
                some (List.getD v1229 (Int.toNat (w64 (p0 + (Int.tmod o1274.1 p1)))) 0) >>= fun o1283 =>
                some (decide (o1283 < 0))
              else none
            else
              some (false)
          : Option Bool) >>= fun m1285 =>
          (
            if m1285 then
              if (0 : Int) ≤ Int.tmod o1274.1 p0 ∧ Int.tmod o1274.1 p0 < (v1230.length : Int) then
                some (List.getD v1230 (Int.toNat (Int.tmod o1274.1 p0)) 0) >>= fun o1323 =>
                if (0 : Int) ≤ w64 (p0 + (Int.tmod o1274.1 p1)) ∧ w64 (p0 + (Int.tmod o1274.1 p1)) < (v1229.length : Int) then
                  if (0 : Int) ≤ w64 (p0 + (Int.tmod o1274.1 p1)) ∧ w64 (p0 + (Int.tmod o1274.1 p1)) < (v1230.length : Int) then
                    some (List.set v1229 (Int.toNat (w64 (p0 + (Int.tmod o1274.1 p1)))) v451, List.set v1230 (Int.toNat (w64 (p0 + (Int.tmod o1274.1 p1)))) (w64 (o1274.2 - o1323)))
                  else none
                else none
              else none
            else
              some (v1229, v1230)
          : Option ((List Int) × (List Int))) >>= fun m1295 =>
          if (0 : Int) ≤ w64 (p0 + (Int.tmod o1274.1 p1)) ∧ w64 (p0 + (Int.tmod o1274.1 p1)) < (m1295.1.length : Int) then
            some (List.getD m1295.1 (Int.toNat (w64 (p0 + (Int.tmod o1274.1 p1)))) 0) >>= fun o1298 =>
            (
              if o1298 == v451 then
                if (0 : Int) ≤ Int.tmod o1274.1 p0 ∧ Int.tmod o1274.1 p0 < (m1295.1.length : Int) then
                  some (List.getD m1295.1 (Int.toNat (Int.tmod o1274.1 p0)) 0) >>= fun o1302 =>
                  some (decide (o1302 < 0))
                else none
              else
                some (false)
            : Option Bool) >>= fun m1304 =>
            (
              if m1304 then
                if (0 : Int) ≤ w64 (p0 + (Int.tmod o1274.1 p1)) ∧ w64 (p0 + (Int.tmod o1274.1 p1)) < (m1295.2.length : Int) then
                  some (List.getD m1295.2 (Int.toNat (w64 (p0 + (Int.tmod o1274.1 p1)))) 0) >>= fun o1317 =>
                  if (0 : Int) ≤ Int.tmod o1274.1 p0 ∧ Int.tmod o1274.1 p0 < (m1295.1.length : Int) then
                    if (0 : Int) ≤ Int.tmod o1274.1 p0 ∧ Int.tmod o1274.1 p0 < (m1295.2.length : Int) then
                      some (List.set m1295.1 (Int.toNat (Int.tmod o1274.1 p0)) v451, List.set m1295.2 (Int.toNat (Int.tmod o1274.1 p0)) (w64 (o1274.2 - o1317)))
                    else none
                  else none
                else none
              else
                some (m1295.1, m1295.2)
            : Option ((List Int) × (List Int))) >>= fun m1314 =>
            F48l3 p0 p1 p2 v451 v1041 (w64 (v1228 + 1)) m1314.1 m1314.2
          else none
        else none
      else none
    else
      some (v1229, v1230)
  partial_fixpoint
def F48l2 (p0 : Int) (p1 : Int) (p2 : (List (Int × Int))) (v451 : Int) (v1041 : Int) (v1042 : (List Int)) (v1043 : (List Int)) : Option ((List Int) × (List Int)) :=
    if decide (v1041 < (w64 (p0 + p1))) then
      F48l3 p0 p1 p2 v451 v1041 0 v1042 v1043 >>= fun r1328 =>
      F48l2 p0 p1 p2 v451 (w64 (v1041 + 1)) r1328.1 r1328.2
    else
      some (v1042, v1043)
  partial_fixpoint
def F48l1 (p0 : Int) (p1 : Int) (p2 : (List (Int × Int))) (v451 : Int) (v452 : (List Int)) (v453 : (List Int)) : Option ((List Int) × (List Int)) :=
    if decide (v451 < (w64 (p0 + p1))) then
      if (0 : Int) ≤ v451 ∧ v451 < (v452.length : Int) then
        some (List.getD v452 (Int.toNat v451) 0) >>= fun o896 =>
        if decide (o896 ≥ 0) then
          F48l1 p0 p1 p2 (w64 (v451 + 1)) v452 v453
        else
          F48l2 p0 p1 p2 v451 0 (List.set v452 (Int.toNat v451) v451) v453 >>= fun r1330 =>
          F48l1 p0 p1 p2 (w64 (v451 + 1)) r1330.1 r1330.2
      else none
    else
      some (v452, v453)
  partial_fixpoint
def F48 (p0 : Int) (p1 : Int) (p2 : (List (Int × Int))) : Option ((List Int) × (List Int)) :=
  if (0 : Int) ≤ w64 (p0 + p1) ∧ w64 (p0 + p1) ≤ 1000000000 then
    F48l0 p0 p1 p2 0 (List.replicate (Int.toNat (w64 (p0 + p1))) (0 : Int)) >>= fun r11 =>
    F48l1 p0 p1 p2 0 r11 (List.replicate (Int.toNat (w64 (p0 + p1))) (0 : Int)) >>= fun r1332 =>
    some (r1332.1, r1332.2)
  else none
def V48 (b : Nat) (r : ((List Int) × (List Int))) : Value := .tuple ⟨[mkV (b + 0) r.1.length, mkV (b + 1) r.2.length]⟩
def N48 (b : Nat) (r : ((List Int) × (List Int))) : List Blk := [.cells 3 (List.flatMap e3 r.1), .cells 3 (List.flatMap e3 r.2)]
def P48l0 (p0 : Int) (p1 : Int) (p2 : (List (Int × Int))) (r : (List Int)) : Post := fun e a h => e = .exit 0 ∧ Wk Try.prog 1 1 a h (st 131 [(1, pt 1 0), (4, iv (w64 (p0 + p1))), (5, mkV 2 r.length), (6, mkV 3 (List.length (List.replicate (Int.toNat (w64 (p0 + p1))) (0 : Int))))]) [ab 72 e72 p2, cl 28 [iv p0, iv p1, sv 0 p2.length ANY], .cells 3 (List.flatMap e3 r), .cells 3 (List.flatMap e3 (List.replicate (Int.toNat (w64 (p0 + p1))) (0 : Int)))]
theorem L48l0 (p0 : Int) (p1 : Int) (p2 : (List (Int × Int))) (v4 : Int) (v5 : (List Int)) (r : (List Int)) (hF : F48l0 p0 p1 p2 v4 v5 = some r) : TL Try.prog 1 1 c48.s2.s2.s2.s1.s2.bd.bd (S48_30 p0 p1 v5 v4) (H48_23 p2 p0 p1 v5) (P48l0 p0 p1 p2 r) := by
  refine F48l0.partial_correctness p0 p1 p2 (motive := fun v4 v5 r => TL Try.prog 1 1 c48.s2.s2.s2.s1.s2.bd.bd (S48_30 p0 p1 v5 v4) (H48_23 p2 p0 p1 v5) (P48l0 p0 p1 p2 r)) ?_ v4 v5 r hF
  clear hF r v4 v5
  intro again ih v4 v5 r hF
  refine TL.round (TS.sq (TS.sq (TS.rg (TI.ra 3 [1, 4, 5, 6, 7, 25] (st 131 [(1, pt 1 0), (4, iv (w64 (p0 + p1))), (5, mkV 2 v5.length), (6, mkV 3 (List.length (List.replicate (Int.toNat (w64 (p0 + p1))) (0 : Int)))), (7, iv v4), (25, .bool (decide (v4 < (w64 (p0 + p1)))))]) (TI.dn (NX.sq ?_))))))
  refine TS.cd (.tmp 25) (decide (v4 < (w64 (p0 + p1)))) (fun hc9 => ?_) (fun hc9 => ?_)
  · replace hF := of_pos hF hc9
    refine TS.sk (NX.sq (TS.sq (TS.bk 1 ?_)))
    have hX := of_guard hF
    clear hF
    obtain ⟨hg10, hF⟩ := hX
    refine TS.rg (TI.ra 2 [1, 4, 5, 6, 7, 28, 29] (st 131 [(1, pt 1 0), (4, iv (w64 (p0 + p1))), (5, mkV 2 v5.length), (6, mkV 3 (List.length (List.replicate (Int.toNat (w64 (p0 + p1))) (0 : Int)))), (7, iv v4), (28, mkV 2 v5.length), (29, iv v4)]) (TI.o { val := .pointer (some ⟨2, 0 + (Int.toNat v4) * 1, none⟩) } (q_ixS 2 0 ((Int.toNat v4) * 1) (by kernel_rfl) hg10) [1, 4, 5, 6, 7, 30] [0, 1, 2, 3] (st 131 [(1, pt 1 0), (4, iv (w64 (p0 + p1))), (5, mkV 2 v5.length), (6, mkV 3 (List.length (List.replicate (Int.toNat (w64 (p0 + p1))) (0 : Int)))), (7, iv v4), (30, .pointer (some ⟨2, 0 + (Int.toNat v4) * 1, none⟩))]) (H48_23 p2 p0 p1 v5) ?_))
    refine TI.o { val := undef, upd := some (2, .cells 3 (List.flatMap e3 (List.set v5 (Int.toNat v4) (-1)))) } (q_stP Try.prog 1 (H48_23 p2 p0 p1 v5) 3 2 (0 + (Int.toNat v4) * 1) v5 e3 1 3 (Int.toNat v4) 0 1 (iv (-1)) [iv (-1)] 0 (-1) (by first | omega | (simp <;> omega))) [1, 4, 5, 6, 7] [0, 1, 2, 3] (S48_30 p0 p1 v5 v4) (H48_21 p2 p0 p1 v5 v4) (TI.dn (NX.bk (NX.sq (TS.rg (TI.ra 3 [1, 4, 5, 6, 7] (st 131 [(1, pt 1 0), (4, iv (w64 (p0 + p1))), (5, mkV 2 v5.length), (6, mkV 3 (List.length (List.replicate (Int.toNat (w64 (p0 + p1))) (0 : Int)))), (7, iv (w64 (v4 + 1)))]) (TI.dn ?_))))))
    exact Rd.again (a2 := (st 131 [(1, pt 1 0), (4, iv (w64 (p0 + p1))), (5, mkV 2 (List.length (List.set v5 (Int.toNat v4) (-1)))), (6, mkV 3 (List.length (List.replicate (Int.toNat (w64 (p0 + p1))) (0 : Int)))), (7, iv (w64 (v4 + 1)))])) (h2 := (H48_21 p2 p0 p1 v5 v4)) (Wk.an [1, 2, 3] (.ac (.lt (.fl (.fl (.sl .nil))) (.cons (At.blk (by kernel_rfl) (RnB.list (fun _ => rfl))) (.cons (At.blk (by kernel_rfl) (RnB.list (fun _ => rfl))) (.nil _))))) [pt 1 0, iv (w64 (p0 + p1)), mkV 2 v5.length, mkV 3 (List.length (List.replicate (Int.toNat (w64 (p0 + p1))) (0 : Int))), iv (w64 (v4 + 1))] (.pp (.fl (.cons (Rn.mk (Nat.le_of_ble_eq_true rfl) rfl (by simp only [List.length_set])) (.cons (Rn.mk (Nat.le_of_ble_eq_true rfl) rfl (by simp only [List.length_set])) (.fl .nil)))))) (ih (w64 (v4 + 1)) (List.set v5 (Int.toNat v4) (-1)) _ hF)
  · replace hF := of_neg hF hc9
    refine TS.ex 0 (NX.sqX ?_)
    have hF := Option.some.inj hF
    subst hF
    exact Rd.out (e := .exit 0) (by intro h; cases h) (And.intro rfl (Wk.an [1, 2, 3] (.ac (.lt (.fl (.fl (.sl .nil))) (.cons (At.blk (by kernel_rfl) (RnB.list (fun _ => rfl))) (.cons (At.blk (by kernel_rfl) (RnB.list (fun _ => rfl))) (.nil _))))) [pt 1 0, iv (w64 (p0 + p1)), mkV 2 v5.length, mkV 3 (List.length (List.replicate (Int.toNat (w64 (p0 + p1))) (0 : Int)))] (.pp (.fl (.cons (Rn.mk (Nat.le_of_ble_eq_true rfl) rfl (by simp only [List.length_set])) (.cons (Rn.mk (Nat.le_of_ble_eq_true rfl) rfl (by simp only [List.length_set])) .nil))))))
def P48l3 (p0 : Int) (p1 : Int) (p2 : (List (Int × Int))) (v451 : Int) (v1041 : Int) (r : ((List Int) × (List Int))) : Post := fun e a h => e = .exit 6 ∧ Wk Try.prog 1 1 a h (st 131 [(1, pt 1 0), (4, iv (w64 (p0 + p1))), (5, mkV 2 r.1.length), (6, mkV 3 r.2.length), (8, iv v451), (9, iv v1041)]) [ab 72 e72 p2, cl 28 [iv p0, iv p1, sv 0 p2.length ANY], .cells 3 (List.flatMap e3 r.1), .cells 3 (List.flatMap e3 r.2)]
theorem L48l3 (p0 : Int) (p1 : Int) (p2 : (List (Int × Int))) (v451 : Int) (v1041 : Int) (v1228 : Int) (v1229 : (List Int)) (v1230 : (List Int)) (r : ((List Int) × (List Int))) (hF : F48l3 p0 p1 p2 v451 v1041 v1228 v1229 v1230 = some r) : TL Try.prog 1 1 c48.s2.s2.s2.s2.s1.s2.bd.bd.s2.s1.bd.s2.s2.s2.bd.bd.s2.s1.bd.s2.bd.bd (st 131 [(1, pt 1 0), (4, iv (w64 (p0 + p1))), (5, mkV 2 v1229.length), (6, mkV 3 v1230.length), (8, iv v451), (9, iv v1041), (10, iv v1228)]) (H48_27 p2 p0 p1 v1229 v1230) (P48l3 p0 p1 p2 v451 v1041 r) := by
  refine F48l3.partial_correctness p0 p1 p2 v451 v1041 (motive := fun v1228 v1229 v1230 r => TL Try.prog 1 1 c48.s2.s2.s2.s2.s1.s2.bd.bd.s2.s1.bd.s2.s2.s2.bd.bd.s2.s1.bd.s2.bd.bd (st 131 [(1, pt 1 0), (4, iv (w64 (p0 + p1))), (5, mkV 2 v1229.length), (6, mkV 3 v1230.length), (8, iv v451), (9, iv v1041), (10, iv v1228)]) (H48_27 p2 p0 p1 v1229 v1230) (P48l3 p0 p1 p2 v451 v1041 r)) ?_ v1228 v1229 v1230 r hF
  clear hF r v1228 v1229 v1230
  intro again ih v1228 v1229 v1230 r hF
  refine TL.round (TS.sq (TS.sq (TS.rg (TI.ra 5 [1, 4, 5, 6, 8, 9, 10, 54] (st 131 [(1, pt 1 0), (4, iv (w64 (p0 + p1))), (5, mkV 2 v1229.length), (6, mkV 3 v1230.length), (8, iv v451), (9, iv v1041), (10, iv v1228), (54, .bool (decide (v1228 < (p2.length : Int))))]) (TI.dn (NX.sq ?_))))))
  refine TS.cd (.tmp 54) (decide (v1228 < (p2.length : Int))) (fun hc1272 => ?_) (fun hc1272 => ?_)
  · replace hF := of_pos hF hc1272
    refine TS.sk (NX.sq (TS.sq (TS.bk 7 (TS.sq ?_))))
    have hX := of_guard hF
    clear hF
    obtain ⟨hg1273, hF⟩ := hX
    have hX := of_do hF
    clear hF
    obtain ⟨o1274, h1275, hF⟩ := hX
    replace h1275 := Option.some.inj h1275
    refine TS.rg (TI.ra 3 [1, 4, 5, 6, 8, 9, 10, 58, 59] (st 131 [(1, pt 1 0), (4, iv (w64 (p0 + p1))), (5, mkV 2 v1229.length), (6, mkV 3 v1230.length), (8, iv v451), (9, iv v1041), (10, iv v1228), (58, sv 0 p2.length ANY), (59, iv v1228)]) (TI.o { val := .pointer (some ⟨0, 0 + (Int.toNat v1228) * 2, none⟩) } (q_ixS 0 0 ((Int.toNat v1228) * 2) (by kernel_rfl) hg1273) [1, 4, 5, 6, 8, 9, 10, 60] [0, 1, 2, 3] (st 131 [(1, pt 1 0), (4, iv (w64 (p0 + p1))), (5, mkV 2 v1229.length), (6, mkV 3 v1230.length), (8, iv v451), (9, iv v1041), (10, iv v1228), (60, .pointer (some ⟨0, 0 + (Int.toNat v1228) * 2, none⟩))]) (H48_27 p2 p0 p1 v1229 v1230) (TI.o { val := ag [iv o1274.1, iv o1274.2] } (q_nAa Try.prog (H48_27 p2 p0 p1 v1229 v1230) 72 0 (0 + (Int.toNat v1228) * 2) p2 e72 2 72 (Int.toNat v1228) (0, 0) h1275) [1, 4, 5, 6, 8, 9, 10, 61] [0, 1, 2, 3] (st 131 [(1, pt 1 0), (4, iv (w64 (p0 + p1))), (5, mkV 2 v1229.length), (6, mkV 3 v1230.length), (8, iv v451), (9, iv v1041), (10, iv v1228), (61, ag [iv o1274.1, iv o1274.2])]) (H48_27 p2 p0 p1 v1229 v1230) (TI.rn 2 [1, 4, 5, 6, 8, 9, 10, 11] [0, 1, 2, 3, 4] (st 131 [(1, pt 1 0), (4, iv (w64 (p0 + p1))), (5, mkV 2 v1229.length), (6, mkV 3 v1230.length), (8, iv v451), (9, iv v1041), (10, iv v1228), (11, pt 4 0)]) (H48_26 p2 p0 p1 v1229 v1230 o1274) (TI.dn (NX.sq (TS.sq ?_)))))))
    have hX := of_guardn hF
    clear hF
    obtain ⟨hg1276, hF⟩ := hX
    have hX := of_guardn hF
    clear hF
    obtain ⟨hg1277, hF⟩ := hX
    refine TS.dp [] (fun e he => by cases he) mixed 14 [1, 4, 5, 6, 8, 9, 10, 11, 12, 13] [0, 1, 2, 3, 4] (st 131 [(1, pt 1 0), (4, iv (w64 (p0 + p1))), (5, mkV 2 v1229.length), (6, mkV 3 v1230.length), (8, iv v451), (9, iv v1041), (10, iv v1228), (11, pt 4 0), (12, iv (Int.tmod o1274.1 p0)), (13, iv (w64 (p0 + (Int.tmod o1274.1 p1))))]) (H48_26 p2 p0 p1 v1229 v1230 o1274) ?_ ?_
    · exact QJ.rn (qs (st 131 [(1, pt 1 0), (4, iv (w64 (p0 + p1))), (5, mkV 2 v1229.length), (6, mkV 3 v1230.length), (8, iv v451), (9, iv v1041), (10, iv v1228), (11, pt 4 0), (62, pt 4 0), (63, iv o1274.1), (64, pt 1 0), (65, iv p0)]) (H48_26 p2 p0 p1 v1229 v1230 o1274) [] []) 4 (QJ.o { val := iv (Int.tmod o1274.1 p0) } (q_int (P := Try.prog) (op := .rem) (ty := 3) (ox := (.tmp 63)) (oy := (.tmp 65)) (k := .i64) (k' := .i64) (y := o1274.1) (z := p0) (by kernel_rfl) (rem_ok hg1276)) (QJ.rn (qs (st 131 [(1, pt 1 0), (4, iv (w64 (p0 + p1))), (5, mkV 2 v1229.length), (6, mkV 3 v1230.length), (8, iv v451), (9, iv v1041), (10, iv v1228), (11, pt 4 0), (62, pt 4 0), (63, iv o1274.1), (64, pt 1 0), (65, iv p0), (66, iv (Int.tmod o1274.1 p0)), (67, pt 1 0), (68, iv p0), (69, pt 4 0), (70, iv o1274.1), (71, pt 1 1), (72, iv p1)]) (H48_26 p2 p0 p1 v1229 v1230 o1274) [] []) 6 (QJ.o { val := iv (Int.tmod o1274.1 p1) } (q_int (P := Try.prog) (op := .rem) (ty := 3) (ox := (.tmp 70)) (oy := (.tmp 72)) (k := .i64) (k' := .i64) (y := o1274.1) (z := p1) (by kernel_rfl) (rem_ok hg1277)) (QJ.rn (qs (st 131 [(1, pt 1 0), (4, iv (w64 (p0 + p1))), (5, mkV 2 v1229.length), (6, mkV 3 v1230.length), (8, iv v451), (9, iv v1041), (10, iv v1228), (11, pt 4 0), (12, iv (Int.tmod o1274.1 p0)), (62, pt 4 0), (63, iv o1274.1), (64, pt 1 0), (65, iv p0), (66, iv (Int.tmod o1274.1 p0)), (67, pt 1 0), (68, iv p0), (69, pt 4 0), (70, iv o1274.1), (71, pt 1 1), (72, iv p1), (73, iv (Int.tmod o1274.1 p1)), (74, iv (w64 (p0 + (Int.tmod o1274.1 p1))))]) (H48_26 p2 p0 p1 v1229 v1230 o1274) [] []) 2 (QJ.dn ⟨rfl, SJ.la⟩)))))
    refine TS.sq (TS.sq ?_)
    have hX := of_guard hF
    clear hF
    obtain ⟨hg1278, hF⟩ := hX
    have hX := of_do hF
    clear hF
    obtain ⟨o1279, h1280, hF⟩ := hX
    replace h1280 := Option.some.inj h1280
    have hX := of_do hF
    clear hF
    obtain ⟨m1285, hm1327, hF⟩ := hX
    have hK : NX Try.prog 1 1 [.sq c48.s2.s2.s2.s2.s1.s2.bd.bd.s2.s1.bd.s2.s2.s2.bd.bd.s2.s1.bd.s2.bd.bd.s2.s1.bd.s2.s2.s1.s2, .sq c48.s2.s2.s2.s2.s1.s2.bd.bd.s2.s1.bd.s2.s2.s2.bd.bd.s2.s1.bd.s2.bd.bd.s2.s1.bd.s2.s2.s2, .bk 7, .sq c48.s2.s2.s2.s2.s1.s2.bd.bd.s2.s1.bd.s2.s2.s2.bd.bd.s2.s1.bd.s2.bd.bd.s2.s2] (Rd Try.prog 1 1 c48.s2.s2.s2.s2.s1.s2.bd.bd.s2.s1.bd.s2.s2.s2.bd.bd.s2.s1.bd.s2.bd.bd (P48l3 p0 p1 p2 v451 v1041 r)) .normal (st 131 [(1, pt 1 0), (4, iv (w64 (p0 + p1))), (5, mkV 2 v1229.length), (6, mkV 3 v1230.length), (8, iv v451), (9, iv v1041), (10, iv v1228), (11, pt 4 0), (12, iv (Int.tmod o1274.1 p0)), (13, iv (w64 (p0 + (Int.tmod o1274.1 p1)))), (87, .bool m1285)]) (H48_26 p2 p0 p1 v1229 v1230 o1274) := by
      refine NX.sq ?_
      have hX := of_do hF
      clear hF
      obtain ⟨m1295, hm1296, hF⟩ := hX
      have hK : NX Try.prog 1 1 [.sq c48.s2.s2.s2.s2.s1.s2.bd.bd.s2.s1.bd.s2.s2.s2.bd.bd.s2.s1.bd.s2.bd.bd.s2.s1.bd.s2.s2.s2, .bk 7, .sq c48.s2.s2.s2.s2.s1.s2.bd.bd.s2.s1.bd.s2.s2.s2.bd.bd.s2.s1.bd.s2.bd.bd.s2.s2] (Rd Try.prog 1 1 c48.s2.s2.s2.s2.s1.s2.bd.bd.s2.s1.bd.s2.s2.s2.bd.bd.s2.s1.bd.s2.bd.bd (P48l3 p0 p1 p2 v451 v1041 r)) .normal (st 131 [(1, pt 1 0), (4, iv (w64 (p0 + p1))), (5, mkV 2 m1295.1.length), (6, mkV 3 m1295.2.length), (8, iv v451), (9, iv v1041), (10, iv v1228), (11, pt 4 0), (12, iv (Int.tmod o1274.1 p0)), (13, iv (w64 (p0 + (Int.tmod o1274.1 p1))))]) (H48_24 p2 p0 p1 m1295 o1274) := by
        refine NX.sq (TS.sq ?_)
        have hX := of_guard hF
        clear hF
        obtain ⟨hg1297, hF⟩ := hX
        have hX := of_do hF
        clear hF
        obtain ⟨o1298, h1299, hF⟩ := hX
        replace h1299 := Option.some.inj h1299
        have hX := of_do hF
        clear hF
        obtain ⟨m1304, hm1321, hF⟩ := hX
        have hK : NX Try.prog 1 1 [.sq c48.s2.s2.s2.s2.s1.s2.bd.bd.s2.s1.bd.s2.s2.s2.bd.bd.s2.s1.bd.s2.bd.bd.s2.s1.bd.s2.s2.s2.s2, .bk 7, .sq c48.s2.s2.s2.s2.s1.s2.bd.bd.s2.s1.bd.s2.s2.s2.bd.bd.s2.s1.bd.s2.bd.bd.s2.s2] (Rd Try.prog 1 1 c48.s2.s2.s2.s2.s1.s2.bd.bd.s2.s1.bd.s2.s2.s2.bd.bd.s2.s1.bd.s2.bd.bd (P48l3 p0 p1 p2 v451 v1041 r)) .normal (st 131 [(1, pt 1 0), (4, iv (w64 (p0 + p1))), (5, mkV 2 m1295.1.length), (6, mkV 3 m1295.2.length), (8, iv v451), (9, iv v1041), (10, iv v1228), (11, pt 4 0), (12, iv (Int.tmod o1274.1 p0)), (13, iv (w64 (p0 + (Int.tmod o1274.1 p1)))), (114, .bool m1304)]) (H48_24 p2 p0 p1 m1295 o1274) := by
          refine NX.sq ?_
          have hX := of_do hF
          clear hF
          obtain ⟨m1314, hm1315, hF⟩ := hX
          have hK : NX Try.prog 1 1 [.bk 7, .sq c48.s2.s2.s2.s2.s1.s2.bd.bd.s2.s1.bd.s2.s2.s2.bd.bd.s2.s1.bd.s2.bd.bd.s2.s2] (Rd Try.prog 1 1 c48.s2.s2.s2.s2.s1.s2.bd.bd.s2.s1.bd.s2.s2.s2.bd.bd.s2.s1.bd.s2.bd.bd (P48l3 p0 p1 p2 v451 v1041 r)) .normal (st 131 [(1, pt 1 0), (4, iv (w64 (p0 + p1))), (5, mkV 2 m1314.1.length), (6, mkV 3 m1314.2.length), (8, iv v451), (9, iv v1041), (10, iv v1228)]) [ab 72 e72 p2, cl 28 [iv p0, iv p1, sv 0 p2.length ANY], .cells 3 (List.flatMap e3 m1314.1), .cells 3 (List.flatMap e3 m1314.2)] := by
            refine NX.bk (NX.sq (TS.rg (TI.ra 3 [1, 4, 5, 6, 8, 9, 10] (st 131 [(1, pt 1 0), (4, iv (w64 (p0 + p1))), (5, mkV 2 m1314.1.length), (6, mkV 3 m1314.2.length), (8, iv v451), (9, iv v1041), (10, iv (w64 (v1228 + 1)))]) (TI.dn ?_))))
            exact Rd.again (a2 := (st 131 [(1, pt 1 0), (4, iv (w64 (p0 + p1))), (5, mkV 2 m1314.1.length), (6, mkV 3 m1314.2.length), (8, iv v451), (9, iv v1041), (10, iv (w64 (v1228 + 1)))])) (h2 := [ab 72 e72 p2, cl 28 [iv p0, iv p1, sv 0 p2.length ANY], .cells 3 (List.flatMap e3 m1314.1), .cells 3 (List.flatMap e3 m1314.2)]) (Wk.an [1, 2, 3] (.ac (.lt (.fl (.fl (.sl .nil))) (.cons (At.blk (by kernel_rfl) (RnB.list (fun _ => rfl))) (.cons (At.blk (by kernel_rfl) (RnB.list (fun _ => rfl))) (.nil _))))) [pt 1 0, iv (w64 (p0 + p1)), mkV 2 m1314.1.length, mkV 3 m1314.2.length, iv v451, iv v1041, iv (w64 (v1228 + 1))] (.pp (.fl (.cons (Rn.mk (Nat.le_of_ble_eq_true rfl) rfl (by simp only [List.length_set])) (.cons (Rn.mk (Nat.le_of_ble_eq_true rfl) rfl (by simp only [List.length_set])) (.fl (.fl (.fl .nil)))))))) (ih (w64 (v1228 + 1)) m1314.1 m1314.2 _ hF)
          clear hF
          have hF := hm1315
          clear hm1315
          refine TS.start ?_
          cases m1304 with
          | true =>
            replace hF := of_pos hF rfl
            refine TS.cdT (.tmp 114) ?_
            have hX := of_guard hF
            clear hF
            obtain ⟨hg1316, hF⟩ := hX
            have hX := of_do hF
            clear hF
            obtain ⟨o1317, h1318, hF⟩ := hX
            replace h1318 := Option.some.inj h1318
            have hX := of_guard hF
            clear hF
            obtain ⟨hg1319, hF⟩ := hX
            have hX := of_guard hF
            clear hF
            obtain ⟨hg1320, hF⟩ := hX
            refine TS.drawE (id := 23) (b := true) (ops := c48.s2.s2.s2.s2.s1.s2.bd.bd.s2.s1.bd.s2.s2.s2.bd.bd.s2.s1.bd.s2.bd.bd.s2.s1.bd.s2.s2.s2.s2.th.rops) (fin := (qs (S48_2 p0 p1 m1295 v451 v1041 v1228 o1274 o1317) (H48_20 p2 p0 p1 m1295 o1274 v451) [] [(13, 2)])) (fin2 := (qs (S48_2 p0 p1 m1295 v451 v1041 v1228 o1274 o1317) (H48_20 p2 p0 p1 m1295 o1274 v451) [] [(13, 2)])) (a1 := (S48_1 p0 p1 m1295 v451 v1041 v1228 o1274 o1317)) (h1 := (H48_13 p2 p0 p1 m1295 o1274 v451 o1317)) [] (fun e he => by cases he) mixed (by kernel_rfl) rfl 14 (by kernel_rfl) [(13, 2)] ?_ rfl (.inr ⟨?_, (by kernel_rfl)⟩) ?_ ?_
            · refine QI.run (s1 := (qs (S48_10 p0 p1 m1295 v451 v1041 v1228 o1274) (H48_24 p2 p0 p1 m1295 o1274) [] [])) 9 (by kernel_rfl) (by kernel_rfl) (QI.op (q := { val := .pointer (some ⟨3, 0 + (Int.toNat (w64 (p0 + (Int.tmod o1274.1 p1)))) * 1, none⟩) }) (s1 := (qs (S48_7 p0 p1 m1295 v451 v1041 v1228 o1274) (H48_24 p2 p0 p1 m1295 o1274) [] [])) (by decide) (q_ixS 3 0 ((Int.toNat (w64 (p0 + (Int.tmod o1274.1 p1)))) * 1) (by kernel_rfl) hg1316) (by kernel_rfl) (QI.op (q := { val := iv o1317 }) (s1 := (qs (S48_6 p0 p1 m1295 v451 v1041 v1228 o1274 o1317) (H48_24 p2 p0 p1 m1295 o1274) [] [])) (by decide) (q_n1 Try.prog (H48_24 p2 p0 p1 m1295 o1274) 3 3 (0 + (Int.toNat (w64 (p0 + (Int.tmod o1274.1 p1)))) * 1) m1295.2 e3 1 3 (Int.toNat (w64 (p0 + (Int.tmod o1274.1 p1)))) 0 0 h1318) (by kernel_rfl) (QI.run (s1 := (qs (S48_4 p0 p1 m1295 v451 v1041 v1228 o1274 o1317) (H48_24 p2 p0 p1 m1295 o1274) [] [])) 1 (by kernel_rfl) (by kernel_rfl) (QI.op (q := { val := .pointer (some ⟨2, 0 + (Int.toNat (Int.tmod o1274.1 p0)) * 1, none⟩) }) (s1 := (qs (S48_2 p0 p1 m1295 v451 v1041 v1228 o1274 o1317) (H48_24 p2 p0 p1 m1295 o1274) [] [])) (by decide) (q_ixS 2 0 ((Int.toNat (Int.tmod o1274.1 p0)) * 1) (by kernel_rfl) hg1319) (by kernel_rfl) ?_))))
              exact QI.op (q := { val := undef, upd := some (2, .cells 3 (List.flatMap e3 (List.set m1295.1 (Int.toNat (Int.tmod o1274.1 p0)) v451))) }) (s1 := (qs (S48_2 p0 p1 m1295 v451 v1041 v1228 o1274 o1317) (H48_20 p2 p0 p1 m1295 o1274 v451) [] [(13, 2)])) (by decide) (q_stP Try.prog 1 (H48_24 p2 p0 p1 m1295 o1274) 3 2 (0 + (Int.toNat (Int.tmod o1274.1 p0)) * 1) m1295.1 e3 1 3 (Int.toNat (Int.tmod o1274.1 p0)) 0 1 (iv v451) [iv v451] 0 v451 (by first | omega | (simp <;> omega))) (by kernel_rfl) (QI.done (by kernel_rfl))
            · refine QI.run (s1 := (qs (S48_10 p0 p1 m1295 v451 v1041 v1228 o1274) (H48_24 p2 p0 p1 m1295 o1274) [] [])) 9 (by kernel_rfl) (by kernel_rfl) (QI.op (q := { val := .pointer (some ⟨3, 0 + (Int.toNat (w64 (p0 + (Int.tmod o1274.1 p1)))) * 1, none⟩) }) (s1 := (qs (S48_7 p0 p1 m1295 v451 v1041 v1228 o1274) (H48_24 p2 p0 p1 m1295 o1274) [] [])) (by decide) (q_ixS 3 0 ((Int.toNat (w64 (p0 + (Int.tmod o1274.1 p1)))) * 1) (by kernel_rfl) hg1316) (by kernel_rfl) (QI.op (q := { val := iv o1317 }) (s1 := (qs (S48_6 p0 p1 m1295 v451 v1041 v1228 o1274 o1317) (H48_24 p2 p0 p1 m1295 o1274) [] [])) (by decide) (q_n1 Try.prog (H48_24 p2 p0 p1 m1295 o1274) 3 3 (0 + (Int.toNat (w64 (p0 + (Int.tmod o1274.1 p1)))) * 1) m1295.2 e3 1 3 (Int.toNat (w64 (p0 + (Int.tmod o1274.1 p1)))) 0 0 h1318) (by kernel_rfl) (QI.run (s1 := (qs (S48_4 p0 p1 m1295 v451 v1041 v1228 o1274 o1317) (H48_24 p2 p0 p1 m1295 o1274) [] [])) 1 (by kernel_rfl) (by kernel_rfl) (QI.op (q := { val := .pointer (some ⟨2, 0 + (Int.toNat (Int.tmod o1274.1 p0)) * 1, none⟩) }) (s1 := (qs (S48_2 p0 p1 m1295 v451 v1041 v1228 o1274 o1317) (H48_24 p2 p0 p1 m1295 o1274) [] [])) (by decide) (q_ixS 2 0 ((Int.toNat (Int.tmod o1274.1 p0)) * 1) (by kernel_rfl) hg1319) (by kernel_rfl) ?_))))
              exact QI.op (q := { val := undef, upd := some (2, .cells 3 (List.flatMap e3 (List.set m1295.1 (Int.toNat (Int.tmod o1274.1 p0)) v451))) }) (s1 := (qs (S48_2 p0 p1 m1295 v451 v1041 v1228 o1274 o1317) (H48_20 p2 p0 p1 m1295 o1274 v451) [] [(13, 2)])) (by decide) (q_stP Try.prog 1 (H48_24 p2 p0 p1 m1295 o1274) 3 2 (0 + (Int.toNat (Int.tmod o1274.1 p0)) * 1) m1295.1 e3 1 3 (Int.toNat (Int.tmod o1274.1 p0)) 0 1 (iv v451) [iv v451] 0 v451 (by first | omega | (simp <;> omega))) (by kernel_rfl) (QI.done (by kernel_rfl))
            · refine SI.op (q := { val := .pointer (some ⟨3, 0 + (Int.toNat (Int.tmod o1274.1 p0)) * 1, none⟩) }) (a2 := (S48_1 p0 p1 m1295 v451 v1041 v1228 o1274 o1317)) (h2 := (H48_20 p2 p0 p1 m1295 o1274 v451)) (by kernel_rfl) (q_ixS 3 0 ((Int.toNat (Int.tmod o1274.1 p0)) * 1) (by kernel_rfl) hg1320) (by kernel_rfl) (by kernel_rfl) ?_
              exact SI.op (q := { val := undef, upd := some (3, .cells 3 (List.flatMap e3 (List.set m1295.2 (Int.toNat (Int.tmod o1274.1 p0)) (w64 (o1274.2 - o1317))))) }) (a2 := (S48_1 p0 p1 m1295 v451 v1041 v1228 o1274 o1317)) (h2 := (H48_13 p2 p0 p1 m1295 o1274 v451 o1317)) (by kernel_rfl) (q_stP Try.prog 1 (H48_20 p2 p0 p1 m1295 o1274 v451) 3 3 (0 + (Int.toNat (Int.tmod o1274.1 p0)) * 1) m1295.2 e3 1 3 (Int.toNat (Int.tmod o1274.1 p0)) 0 1 (iv (w64 (o1274.2 - o1317))) [iv (w64 (o1274.2 - o1317))] 0 (w64 (o1274.2 - o1317)) (by first | omega | (simp <;> omega))) (by kernel_rfl) (by kernel_rfl) (SI.done (by kernel_rfl))
            have hF := Option.some.inj hF
            subst hF
            exact TS.weak (by exact (Wk.an [1, 2, 3] (.ac (.lt (.fl (.fl (.sl .nil))) (.cons (At.blk (by kernel_rfl) (RnB.list (fun _ => rfl))) (.cons (At.blk (by kernel_rfl) (RnB.list (fun _ => rfl))) (.nil _))))) [pt 1 0, iv (w64 (p0 + p1)), mkV 2 m1295.1.length, mkV 3 m1295.2.length, iv v451, iv v1041, iv v1228] (.pp (.fl (.cons (Rn.mk (Nat.le_of_ble_eq_true rfl) rfl (by simp only [List.length_set])) (.cons (Rn.mk (Nat.le_of_ble_eq_true rfl) rfl (by simp only [List.length_set])) (.fl (.fl (.fl .nil))))))))) hK
          | false =>
            replace hF := of_neg hF rfl
            refine TS.cdF (.tmp 114) (TS.sk ?_)
            have hF := Option.some.inj hF
            subst hF
            exact TS.weak (by exact (Wk.an [1, 2, 3] (.ac (.lt (.fl (.fl (.sl .nil))) (.cons (At.blk (by kernel_rfl) (RnB.list (fun _ => rfl))) (.cons (At.blk (by kernel_rfl) (RnB.list (fun _ => rfl))) (.nil _))))) [pt 1 0, iv (w64 (p0 + p1)), mkV 2 m1295.1.length, mkV 3 m1295.2.length, iv v451, iv v1041, iv v1228] (.pp (.fl (.cons (Rn.mk (Nat.le_of_ble_eq_true rfl) rfl (by simp only [List.length_set])) (.cons (Rn.mk (Nat.le_of_ble_eq_true rfl) rfl (by simp only [List.length_set])) (.fl (.fl (.fl .nil))))))))) hK
        rcases Bool.eq_false_or_eq_true (o1298 == v451) with hc1300 | hc1300
        · replace hm1321 := of_pos hm1321 hc1300
          have hX := of_guard hm1321
          clear hm1321
          obtain ⟨hg1301, hm1321⟩ := hX
          have hX := of_do hm1321
          clear hm1321
          obtain ⟨o1302, h1303, hm1321⟩ := hX
          replace h1303 := Option.some.inj h1303
          have hm1321 := Option.some.inj hm1321
          subst hm1321
          refine TS.rg (TI.ra 2 [1, 4, 5, 6, 8, 9, 10, 11, 12, 13, 102, 103] (S48_15 p0 p1 m1295 v451 v1041 v1228 o1274) (TI.o { val := .pointer (some ⟨2, 0 + (Int.toNat (w64 (p0 + (Int.tmod o1274.1 p1)))) * 1, none⟩) } (q_ixS 2 0 ((Int.toNat (w64 (p0 + (Int.tmod o1274.1 p1)))) * 1) (by kernel_rfl) hg1297) [1, 4, 5, 6, 8, 9, 10, 11, 12, 13, 104] [0, 1, 2, 3, 4] (S48_14 p0 p1 m1295 v451 v1041 v1228 o1274) (H48_24 p2 p0 p1 m1295 o1274) (TI.o { val := iv o1298 } (q_n1 Try.prog (H48_24 p2 p0 p1 m1295 o1274) 3 2 (0 + (Int.toNat (w64 (p0 + (Int.tmod o1274.1 p1)))) * 1) m1295.1 e3 1 3 (Int.toNat (w64 (p0 + (Int.tmod o1274.1 p1)))) 0 0 h1299) [1, 4, 5, 6, 8, 9, 10, 11, 12, 13, 105] [0, 1, 2, 3, 4] (st 131 [(1, pt 1 0), (4, iv (w64 (p0 + p1))), (5, mkV 2 m1295.1.length), (6, mkV 3 m1295.2.length), (8, iv v451), (9, iv v1041), (10, iv v1228), (11, pt 4 0), (12, iv (Int.tmod o1274.1 p0)), (13, iv (w64 (p0 + (Int.tmod o1274.1 p1)))), (105, iv o1298)]) (H48_24 p2 p0 p1 m1295 o1274) (TI.ra 1 [1, 4, 5, 6, 8, 9, 10, 11, 12, 13, 105, 106] (st 131 [(1, pt 1 0), (4, iv (w64 (p0 + p1))), (5, mkV 2 m1295.1.length), (6, mkV 3 m1295.2.length), (8, iv v451), (9, iv v1041), (10, iv v1228), (11, pt 4 0), (12, iv (Int.tmod o1274.1 p0)), (13, iv (w64 (p0 + (Int.tmod o1274.1 p1)))), (105, iv o1298), (106, iv v451)]) (TI.o { val := .bool true } (q_conv (e := o1298 == v451) (b := true) (by kernel_rfl) hc1300) [1, 4, 5, 6, 8, 9, 10, 11, 12, 13, 107] [0, 1, 2, 3, 4] (st 131 [(1, pt 1 0), (4, iv (w64 (p0 + p1))), (5, mkV 2 m1295.1.length), (6, mkV 3 m1295.2.length), (8, iv v451), (9, iv v1041), (10, iv v1228), (11, pt 4 0), (12, iv (Int.tmod o1274.1 p0)), (13, iv (w64 (p0 + (Int.tmod o1274.1 p1)))), (107, .bool true)]) (H48_24 p2 p0 p1 m1295 o1274) (TI.ra 3 [1, 4, 5, 6, 8, 9, 10, 11, 12, 13, 108, 109, 110] (st 131 [(1, pt 1 0), (4, iv (w64 (p0 + p1))), (5, mkV 2 m1295.1.length), (6, mkV 3 m1295.2.length), (8, iv v451), (9, iv v1041), (10, iv v1228), (11, pt 4 0), (12, iv (Int.tmod o1274.1 p0)), (13, iv (w64 (p0 + (Int.tmod o1274.1 p1)))), (108, .bool true), (109, mkV 2 m1295.1.length), (110, iv (Int.tmod o1274.1 p0))]) (TI.o { val := .pointer (some ⟨2, 0 + (Int.toNat (Int.tmod o1274.1 p0)) * 1, none⟩) } (q_ixS 2 0 ((Int.toNat (Int.tmod o1274.1 p0)) * 1) (by kernel_rfl) hg1301) [1, 4, 5, 6, 8, 9, 10, 11, 12, 13, 108, 111] [0, 1, 2, 3, 4] (st 131 [(1, pt 1 0), (4, iv (w64 (p0 + p1))), (5, mkV 2 m1295.1.length), (6, mkV 3 m1295.2.length), (8, iv v451), (9, iv v1041), (10, iv v1228), (11, pt 4 0), (12, iv (Int.tmod o1274.1 p0)), (13, iv (w64 (p0 + (Int.tmod o1274.1 p1)))), (108, .bool true), (111, .pointer (some ⟨2, 0 + (Int.toNat (Int.tmod o1274.1 p0)) * 1, none⟩))]) (H48_24 p2 p0 p1 m1295 o1274) (TI.o { val := iv o1302 } (q_n1 Try.prog (H48_24 p2 p0 p1 m1295 o1274) 3 2 (0 + (Int.toNat (Int.tmod o1274.1 p0)) * 1) m1295.1 e3 1 3 (Int.toNat (Int.tmod o1274.1 p0)) 0 0 h1303) [1, 4, 5, 6, 8, 9, 10, 11, 12, 13, 108, 112] [0, 1, 2, 3, 4] (st 131 [(1, pt 1 0), (4, iv (w64 (p0 + p1))), (5, mkV 2 m1295.1.length), (6, mkV 3 m1295.2.length), (8, iv v451), (9, iv v1041), (10, iv v1228), (11, pt 4 0), (12, iv (Int.tmod o1274.1 p0)), (13, iv (w64 (p0 + (Int.tmod o1274.1 p1)))), (108, .bool true), (112, iv o1302)]) (H48_24 p2 p0 p1 m1295 o1274) ?_))))))))
          exact TI.ra 2 [1, 4, 5, 6, 8, 9, 10, 11, 12, 13, 114] (st 131 [(1, pt 1 0), (4, iv (w64 (p0 + p1))), (5, mkV 2 m1295.1.length), (6, mkV 3 m1295.2.length), (8, iv v451), (9, iv v1041), (10, iv v1228), (11, pt 4 0), (12, iv (Int.tmod o1274.1 p0)), (13, iv (w64 (p0 + (Int.tmod o1274.1 p1)))), (114, .bool (decide (o1302 < 0)))]) (TI.dn hK)
        · replace hm1321 := of_neg hm1321 hc1300
          have hm1321 := Option.some.inj hm1321
          subst hm1321
          exact TS.rg (TI.ra 2 [1, 4, 5, 6, 8, 9, 10, 11, 12, 13, 102, 103] (S48_15 p0 p1 m1295 v451 v1041 v1228 o1274) (TI.o { val := .pointer (some ⟨2, 0 + (Int.toNat (w64 (p0 + (Int.tmod o1274.1 p1)))) * 1, none⟩) } (q_ixS 2 0 ((Int.toNat (w64 (p0 + (Int.tmod o1274.1 p1)))) * 1) (by kernel_rfl) hg1297) [1, 4, 5, 6, 8, 9, 10, 11, 12, 13, 104] [0, 1, 2, 3, 4] (S48_14 p0 p1 m1295 v451 v1041 v1228 o1274) (H48_24 p2 p0 p1 m1295 o1274) (TI.o { val := iv o1298 } (q_n1 Try.prog (H48_24 p2 p0 p1 m1295 o1274) 3 2 (0 + (Int.toNat (w64 (p0 + (Int.tmod o1274.1 p1)))) * 1) m1295.1 e3 1 3 (Int.toNat (w64 (p0 + (Int.tmod o1274.1 p1)))) 0 0 h1299) [1, 4, 5, 6, 8, 9, 10, 11, 12, 13, 105] [0, 1, 2, 3, 4] (st 131 [(1, pt 1 0), (4, iv (w64 (p0 + p1))), (5, mkV 2 m1295.1.length), (6, mkV 3 m1295.2.length), (8, iv v451), (9, iv v1041), (10, iv v1228), (11, pt 4 0), (12, iv (Int.tmod o1274.1 p0)), (13, iv (w64 (p0 + (Int.tmod o1274.1 p1)))), (105, iv o1298)]) (H48_24 p2 p0 p1 m1295 o1274) (TI.ra 1 [1, 4, 5, 6, 8, 9, 10, 11, 12, 13, 105, 106] (st 131 [(1, pt 1 0), (4, iv (w64 (p0 + p1))), (5, mkV 2 m1295.1.length), (6, mkV 3 m1295.2.length), (8, iv v451), (9, iv v1041), (10, iv v1228), (11, pt 4 0), (12, iv (Int.tmod o1274.1 p0)), (13, iv (w64 (p0 + (Int.tmod o1274.1 p1)))), (105, iv o1298), (106, iv v451)]) (TI.o { val := .bool false } (q_conv (e := o1298 == v451) (b := false) (by kernel_rfl) hc1300) [1, 4, 5, 6, 8, 9, 10, 11, 12, 13, 107] [0, 1, 2, 3, 4] (st 131 [(1, pt 1 0), (4, iv (w64 (p0 + p1))), (5, mkV 2 m1295.1.length), (6, mkV 3 m1295.2.length), (8, iv v451), (9, iv v1041), (10, iv v1228), (11, pt 4 0), (12, iv (Int.tmod o1274.1 p0)), (13, iv (w64 (p0 + (Int.tmod o1274.1 p1)))), (107, .bool false)]) (H48_24 p2 p0 p1 m1295 o1274) (TI.ra 7 [1, 4, 5, 6, 8, 9, 10, 11, 12, 13, 114] (st 131 [(1, pt 1 0), (4, iv (w64 (p0 + p1))), (5, mkV 2 m1295.1.length), (6, mkV 3 m1295.2.length), (8, iv v451), (9, iv v1041), (10, iv v1228), (11, pt 4 0), (12, iv (Int.tmod o1274.1 p0)), (13, iv (w64 (p0 + (Int.tmod o1274.1 p1)))), (114, .bool false)]) (TI.dn hK)))))))
      clear hF
      have hF := hm1296
      clear hm1296
      refine TS.start ?_
      cases m1285 with
      | true =>
        replace hF := of_pos hF rfl
        refine TS.cdT (.tmp 87) ?_
        have hX := of_guard hF
        clear hF
        obtain ⟨hg1322, hF⟩ := hX
        have hX := of_do hF
        clear hF
        obtain ⟨o1323, h1324, hF⟩ := hX
        replace h1324 := Option.some.inj h1324
        have hX := of_guard hF
        clear hF
        obtain ⟨hg1325, hF⟩ := hX
        have hX := of_guard hF
        clear hF
        obtain ⟨hg1326, hF⟩ := hX
        refine TS.drawE (id := 21) (b := true) (ops := c48.s2.s2.s2.s2.s1.s2.bd.bd.s2.s1.bd.s2.s2.s2.bd.bd.s2.s1.bd.s2.bd.bd.s2.s1.bd.s2.s2.s1.s2.th.rops) (fin := (qs (S48_3 p0 p1 v1229 v1230 v451 v1041 v1228 o1274 o1323) (H48_19 p2 p0 p1 v1229 o1274 v451 v1230) [] [(13, 2)])) (fin2 := (qs (S48_3 p0 p1 v1229 v1230 v451 v1041 v1228 o1274 o1323) (H48_19 p2 p0 p1 v1229 o1274 v451 v1230) [] [(13, 2)])) (a1 := (S48_0 p0 p1 v1229 v1230 v451 v1041 v1228 o1274 o1323)) (h1 := (H48_12 p2 p0 p1 v1229 o1274 v451 v1230 o1323)) [] (fun e he => by cases he) mixed (by kernel_rfl) rfl 14 (by kernel_rfl) [(13, 2)] ?_ rfl (.inr ⟨?_, (by kernel_rfl)⟩) ?_ ?_
        · refine QI.run (s1 := (qs (S48_11 p0 p1 v1229 v1230 v451 v1041 v1228 o1274) (H48_26 p2 p0 p1 v1229 v1230 o1274) [] [])) 9 (by kernel_rfl) (by kernel_rfl) (QI.op (q := { val := .pointer (some ⟨3, 0 + (Int.toNat (Int.tmod o1274.1 p0)) * 1, none⟩) }) (s1 := (qs (S48_9 p0 p1 v1229 v1230 v451 v1041 v1228 o1274) (H48_26 p2 p0 p1 v1229 v1230 o1274) [] [])) (by decide) (q_ixS 3 0 ((Int.toNat (Int.tmod o1274.1 p0)) * 1) (by kernel_rfl) hg1322) (by kernel_rfl) (QI.op (q := { val := iv o1323 }) (s1 := (qs (S48_8 p0 p1 v1229 v1230 v451 v1041 v1228 o1274 o1323) (H48_26 p2 p0 p1 v1229 v1230 o1274) [] [])) (by decide) (q_n1 Try.prog (H48_26 p2 p0 p1 v1229 v1230 o1274) 3 3 (0 + (Int.toNat (Int.tmod o1274.1 p0)) * 1) v1230 e3 1 3 (Int.toNat (Int.tmod o1274.1 p0)) 0 0 h1324) (by kernel_rfl) (QI.run (s1 := (qs (S48_5 p0 p1 v1229 v1230 v451 v1041 v1228 o1274 o1323) (H48_26 p2 p0 p1 v1229 v1230 o1274) [] [])) 1 (by kernel_rfl) (by kernel_rfl) (QI.op (q := { val := .pointer (some ⟨2, 0 + (Int.toNat (w64 (p0 + (Int.tmod o1274.1 p1)))) * 1, none⟩) }) (s1 := (qs (S48_3 p0 p1 v1229 v1230 v451 v1041 v1228 o1274 o1323) (H48_26 p2 p0 p1 v1229 v1230 o1274) [] [])) (by decide) (q_ixS 2 0 ((Int.toNat (w64 (p0 + (Int.tmod o1274.1 p1)))) * 1) (by kernel_rfl) hg1325) (by kernel_rfl) ?_))))
          exact QI.op (q := { val := undef, upd := some (2, .cells 3 (List.flatMap e3 (List.set v1229 (Int.toNat (w64 (p0 + (Int.tmod o1274.1 p1)))) v451))) }) (s1 := (qs (S48_3 p0 p1 v1229 v1230 v451 v1041 v1228 o1274 o1323) (H48_19 p2 p0 p1 v1229 o1274 v451 v1230) [] [(13, 2)])) (by decide) (q_stP Try.prog 1 (H48_26 p2 p0 p1 v1229 v1230 o1274) 3 2 (0 + (Int.toNat (w64 (p0 + (Int.tmod o1274.1 p1)))) * 1) v1229 e3 1 3 (Int.toNat (w64 (p0 + (Int.tmod o1274.1 p1)))) 0 1 (iv v451) [iv v451] 0 v451 (by first | omega | (simp <;> omega))) (by kernel_rfl) (QI.done (by kernel_rfl))
        · refine QI.run (s1 := (qs (S48_11 p0 p1 v1229 v1230 v451 v1041 v1228 o1274) (H48_26 p2 p0 p1 v1229 v1230 o1274) [] [])) 9 (by kernel_rfl) (by kernel_rfl) (QI.op (q := { val := .pointer (some ⟨3, 0 + (Int.toNat (Int.tmod o1274.1 p0)) * 1, none⟩) }) (s1 := (qs (S48_9 p0 p1 v1229 v1230 v451 v1041 v1228 o1274) (H48_26 p2 p0 p1 v1229 v1230 o1274) [] [])) (by decide) (q_ixS 3 0 ((Int.toNat (Int.tmod o1274.1 p0)) * 1) (by kernel_rfl) hg1322) (by kernel_rfl) (QI.op (q := { val := iv o1323 }) (s1 := (qs (S48_8 p0 p1 v1229 v1230 v451 v1041 v1228 o1274 o1323) (H48_26 p2 p0 p1 v1229 v1230 o1274) [] [])) (by decide) (q_n1 Try.prog (H48_26 p2 p0 p1 v1229 v1230 o1274) 3 3 (0 + (Int.toNat (Int.tmod o1274.1 p0)) * 1) v1230 e3 1 3 (Int.toNat (Int.tmod o1274.1 p0)) 0 0 h1324) (by kernel_rfl) (QI.run (s1 := (qs (S48_5 p0 p1 v1229 v1230 v451 v1041 v1228 o1274 o1323) (H48_26 p2 p0 p1 v1229 v1230 o1274) [] [])) 1 (by kernel_rfl) (by kernel_rfl) (QI.op (q := { val := .pointer (some ⟨2, 0 + (Int.toNat (w64 (p0 + (Int.tmod o1274.1 p1)))) * 1, none⟩) }) (s1 := (qs (S48_3 p0 p1 v1229 v1230 v451 v1041 v1228 o1274 o1323) (H48_26 p2 p0 p1 v1229 v1230 o1274) [] [])) (by decide) (q_ixS 2 0 ((Int.toNat (w64 (p0 + (Int.tmod o1274.1 p1)))) * 1) (by kernel_rfl) hg1325) (by kernel_rfl) ?_))))
          exact QI.op (q := { val := undef, upd := some (2, .cells 3 (List.flatMap e3 (List.set v1229 (Int.toNat (w64 (p0 + (Int.tmod o1274.1 p1)))) v451))) }) (s1 := (qs (S48_3 p0 p1 v1229 v1230 v451 v1041 v1228 o1274 o1323) (H48_19 p2 p0 p1 v1229 o1274 v451 v1230) [] [(13, 2)])) (by decide) (q_stP Try.prog 1 (H48_26 p2 p0 p1 v1229 v1230 o1274) 3 2 (0 + (Int.toNat (w64 (p0 + (Int.tmod o1274.1 p1)))) * 1) v1229 e3 1 3 (Int.toNat (w64 (p0 + (Int.tmod o1274.1 p1)))) 0 1 (iv v451) [iv v451] 0 v451 (by first | omega | (simp <;> omega))) (by kernel_rfl) (QI.done (by kernel_rfl))
        · refine SI.op (q := { val := .pointer (some ⟨3, 0 + (Int.toNat (w64 (p0 + (Int.tmod o1274.1 p1)))) * 1, none⟩) }) (a2 := (S48_0 p0 p1 v1229 v1230 v451 v1041 v1228 o1274 o1323)) (h2 := (H48_19 p2 p0 p1 v1229 o1274 v451 v1230)) (by kernel_rfl) (q_ixS 3 0 ((Int.toNat (w64 (p0 + (Int.tmod o1274.1 p1)))) * 1) (by kernel_rfl) hg1326) (by kernel_rfl) (by kernel_rfl) ?_
          exact SI.op (q := { val := undef, upd := some (3, .cells 3 (List.flatMap e3 (List.set v1230 (Int.toNat (w64 (p0 + (Int.tmod o1274.1 p1)))) (w64 (o1274.2 - o1323))))) }) (a2 := (S48_0 p0 p1 v1229 v1230 v451 v1041 v1228 o1274 o1323)) (h2 := (H48_12 p2 p0 p1 v1229 o1274 v451 v1230 o1323)) (by kernel_rfl) (q_stP Try.prog 1 (H48_19 p2 p0 p1 v1229 o1274 v451 v1230) 3 3 (0 + (Int.toNat (w64 (p0 + (Int.tmod o1274.1 p1)))) * 1) v1230 e3 1 3 (Int.toNat (w64 (p0 + (Int.tmod o1274.1 p1)))) 0 1 (iv (w64 (o1274.2 - o1323))) [iv (w64 (o1274.2 - o1323))] 0 (w64 (o1274.2 - o1323)) (by first | omega | (simp <;> omega))) (by kernel_rfl) (by kernel_rfl) (SI.done (by kernel_rfl))
        have hF := Option.some.inj hF
        subst hF
        exact TS.weak (by exact (Wk.an [1, 2, 3, 4] (.ac (.lt (.fl (.fl (.sl .nil))) (.cons (At.blk (by kernel_rfl) (RnB.list (fun _ => rfl))) (.cons (At.blk (by kernel_rfl) (RnB.list (fun _ => rfl))) (.lt (.fl (.fl .nil)) (.nil _)))))) [pt 1 0, iv (w64 (p0 + p1)), mkV 2 v1229.length, mkV 3 v1230.length, iv v451, iv v1041, iv v1228, pt 4 0, iv (Int.tmod o1274.1 p0), iv (w64 (p0 + (Int.tmod o1274.1 p1)))] (.pp (.fl (.cons (Rn.mk (Nat.le_of_ble_eq_true rfl) rfl (by simp only [List.length_set])) (.cons (Rn.mk (Nat.le_of_ble_eq_true rfl) rfl (by simp only [List.length_set])) (.fl (.fl (.fl (.pp (.fl (.fl .nil)))))))))))) hK
      | false =>
        replace hF := of_neg hF rfl
        refine TS.cdF (.tmp 87) (TS.sk ?_)
        have hF := Option.some.inj hF
        subst hF
        exact TS.weak (by exact (Wk.an [1, 2, 3, 4] (.ac (.lt (.fl (.fl (.sl .nil))) (.cons (At.blk (by kernel_rfl) (RnB.list (fun _ => rfl))) (.cons (At.blk (by kernel_rfl) (RnB.list (fun _ => rfl))) (.lt (.fl (.fl .nil)) (.nil _)))))) [pt 1 0, iv (w64 (p0 + p1)), mkV 2 v1229.length, mkV 3 v1230.length, iv v451, iv v1041, iv v1228, pt 4 0, iv (Int.tmod o1274.1 p0), iv (w64 (p0 + (Int.tmod o1274.1 p1)))] (.pp (.fl (.cons (Rn.mk (Nat.le_of_ble_eq_true rfl) rfl (by simp only [List.length_set])) (.cons (Rn.mk (Nat.le_of_ble_eq_true rfl) rfl (by simp only [List.length_set])) (.fl (.fl (.fl (.pp (.fl (.fl .nil)))))))))))) hK
    rcases Bool.eq_false_or_eq_true (o1279 == v451) with hc1281 | hc1281
    · replace hm1327 := of_pos hm1327 hc1281
      have hX := of_guard hm1327
      clear hm1327
      obtain ⟨hg1282, hm1327⟩ := hX
      have hX := of_do hm1327
      clear hm1327
      obtain ⟨o1283, h1284, hm1327⟩ := hX
      replace h1284 := Option.some.inj h1284
      have hm1327 := Option.some.inj hm1327
      subst hm1327
      refine TS.rg (TI.ra 2 [1, 4, 5, 6, 8, 9, 10, 11, 12, 13, 75, 76] (S48_17 p0 p1 v1229 v1230 v451 v1041 v1228 o1274) (TI.o { val := .pointer (some ⟨2, 0 + (Int.toNat (Int.tmod o1274.1 p0)) * 1, none⟩) } (q_ixS 2 0 ((Int.toNat (Int.tmod o1274.1 p0)) * 1) (by kernel_rfl) hg1278) [1, 4, 5, 6, 8, 9, 10, 11, 12, 13, 77] [0, 1, 2, 3, 4] (S48_16 p0 p1 v1229 v1230 v451 v1041 v1228 o1274) (H48_26 p2 p0 p1 v1229 v1230 o1274) (TI.o { val := iv o1279 } (q_n1 Try.prog (H48_26 p2 p0 p1 v1229 v1230 o1274) 3 2 (0 + (Int.toNat (Int.tmod o1274.1 p0)) * 1) v1229 e3 1 3 (Int.toNat (Int.tmod o1274.1 p0)) 0 0 h1280) [1, 4, 5, 6, 8, 9, 10, 11, 12, 13, 78] [0, 1, 2, 3, 4] (st 131 [(1, pt 1 0), (4, iv (w64 (p0 + p1))), (5, mkV 2 v1229.length), (6, mkV 3 v1230.length), (8, iv v451), (9, iv v1041), (10, iv v1228), (11, pt 4 0), (12, iv (Int.tmod o1274.1 p0)), (13, iv (w64 (p0 + (Int.tmod o1274.1 p1)))), (78, iv o1279)]) (H48_26 p2 p0 p1 v1229 v1230 o1274) (TI.ra 1 [1, 4, 5, 6, 8, 9, 10, 11, 12, 13, 78, 79] (st 131 [(1, pt 1 0), (4, iv (w64 (p0 + p1))), (5, mkV 2 v1229.length), (6, mkV 3 v1230.length), (8, iv v451), (9, iv v1041), (10, iv v1228), (11, pt 4 0), (12, iv (Int.tmod o1274.1 p0)), (13, iv (w64 (p0 + (Int.tmod o1274.1 p1)))), (78, iv o1279), (79, iv v451)]) (TI.o { val := .bool true } (q_conv (e := o1279 == v451) (b := true) (by kernel_rfl) hc1281) [1, 4, 5, 6, 8, 9, 10, 11, 12, 13, 80] [0, 1, 2, 3, 4] (st 131 [(1, pt 1 0), (4, iv (w64 (p0 + p1))), (5, mkV 2 v1229.length), (6, mkV 3 v1230.length), (8, iv v451), (9, iv v1041), (10, iv v1228), (11, pt 4 0), (12, iv (Int.tmod o1274.1 p0)), (13, iv (w64 (p0 + (Int.tmod o1274.1 p1)))), (80, .bool true)]) (H48_26 p2 p0 p1 v1229 v1230 o1274) (TI.ra 3 [1, 4, 5, 6, 8, 9, 10, 11, 12, 13, 81, 82, 83] (st 131 [(1, pt 1 0), (4, iv (w64 (p0 + p1))), (5, mkV 2 v1229.length), (6, mkV 3 v1230.length), (8, iv v451), (9, iv v1041), (10, iv v1228), (11, pt 4 0), (12, iv (Int.tmod o1274.1 p0)), (13, iv (w64 (p0 + (Int.tmod o1274.1 p1)))), (81, .bool true), (82, mkV 2 v1229.length), (83, iv (w64 (p0 + (Int.tmod o1274.1 p1))))]) (TI.o { val := .pointer (some ⟨2, 0 + (Int.toNat (w64 (p0 + (Int.tmod o1274.1 p1)))) * 1, none⟩) } (q_ixS 2 0 ((Int.toNat (w64 (p0 + (Int.tmod o1274.1 p1)))) * 1) (by kernel_rfl) hg1282) [1, 4, 5, 6, 8, 9, 10, 11, 12, 13, 81, 84] [0, 1, 2, 3, 4] (st 131 [(1, pt 1 0), (4, iv (w64 (p0 + p1))), (5, mkV 2 v1229.length), (6, mkV 3 v1230.length), (8, iv v451), (9, iv v1041), (10, iv v1228), (11, pt 4 0), (12, iv (Int.tmod o1274.1 p0)), (13, iv (w64 (p0 + (Int.tmod o1274.1 p1)))), (81, .bool true), (84, .pointer (some ⟨2, 0 + (Int.toNat (w64 (p0 + (Int.tmod o1274.1 p1)))) * 1, none⟩))]) (H48_26 p2 p0 p1 v1229 v1230 o1274) (TI.o { val := iv o1283 } (q_n1 Try.prog (H48_26 p2 p0 p1 v1229 v1230 o1274) 3 2 (0 + (Int.toNat (w64 (p0 + (Int.tmod o1274.1 p1)))) * 1) v1229 e3 1 3 (Int.toNat (w64 (p0 + (Int.tmod o1274.1 p1)))) 0 0 h1284) [1, 4, 5, 6, 8, 9, 10, 11, 12, 13, 81, 85] [0, 1, 2, 3, 4] (st 131 [(1, pt 1 0), (4, iv (w64 (p0 + p1))), (5, mkV 2 v1229.length), (6, mkV 3 v1230.length), (8, iv v451), (9, iv v1041), (10, iv v1228), (11, pt 4 0), (12, iv (Int.tmod o1274.1 p0)), (13, iv (w64 (p0 + (Int.tmod o1274.1 p1)))), (81, .bool true), (85, iv o1283)]) (H48_26 p2 p0 p1 v1229 v1230 o1274) ?_))))))))
      exact TI.ra 2 [1, 4, 5, 6, 8, 9, 10, 11, 12, 13, 87] (st 131 [(1, pt 1 0), (4, iv (w64 (p0 + p1))), (5, mkV 2 v1229.length), (6, mkV 3 v1230.length), (8, iv v451), (9, iv v1041), (10, iv v1228), (11, pt 4 0), (12, iv (Int.tmod o1274.1 p0)), (13, iv (w64 (p0 + (Int.tmod o1274.1 p1)))), (87, .bool (decide (o1283 < 0)))]) (TI.dn hK)
    · replace hm1327 := of_neg hm1327 hc1281
      have hm1327 := Option.some.inj hm1327
      subst hm1327
      exact TS.rg (TI.ra 2 [1, 4, 5, 6, 8, 9, 10, 11, 12, 13, 75, 76] (S48_17 p0 p1 v1229 v1230 v451 v1041 v1228 o1274) (TI.o { val := .pointer (some ⟨2, 0 + (Int.toNat (Int.tmod o1274.1 p0)) * 1, none⟩) } (q_ixS 2 0 ((Int.toNat (Int.tmod o1274.1 p0)) * 1) (by kernel_rfl) hg1278) [1, 4, 5, 6, 8, 9, 10, 11, 12, 13, 77] [0, 1, 2, 3, 4] (S48_16 p0 p1 v1229 v1230 v451 v1041 v1228 o1274) (H48_26 p2 p0 p1 v1229 v1230 o1274) (TI.o { val := iv o1279 } (q_n1 Try.prog (H48_26 p2 p0 p1 v1229 v1230 o1274) 3 2 (0 + (Int.toNat (Int.tmod o1274.1 p0)) * 1) v1229 e3 1 3 (Int.toNat (Int.tmod o1274.1 p0)) 0 0 h1280) [1, 4, 5, 6, 8, 9, 10, 11, 12, 13, 78] [0, 1, 2, 3, 4] (st 131 [(1, pt 1 0), (4, iv (w64 (p0 + p1))), (5, mkV 2 v1229.length), (6, mkV 3 v1230.length), (8, iv v451), (9, iv v1041), (10, iv v1228), (11, pt 4 0), (12, iv (Int.tmod o1274.1 p0)), (13, iv (w64 (p0 + (Int.tmod o1274.1 p1)))), (78, iv o1279)]) (H48_26 p2 p0 p1 v1229 v1230 o1274) (TI.ra 1 [1, 4, 5, 6, 8, 9, 10, 11, 12, 13, 78, 79] (st 131 [(1, pt 1 0), (4, iv (w64 (p0 + p1))), (5, mkV 2 v1229.length), (6, mkV 3 v1230.length), (8, iv v451), (9, iv v1041), (10, iv v1228), (11, pt 4 0), (12, iv (Int.tmod o1274.1 p0)), (13, iv (w64 (p0 + (Int.tmod o1274.1 p1)))), (78, iv o1279), (79, iv v451)]) (TI.o { val := .bool false } (q_conv (e := o1279 == v451) (b := false) (by kernel_rfl) hc1281) [1, 4, 5, 6, 8, 9, 10, 11, 12, 13, 80] [0, 1, 2, 3, 4] (st 131 [(1, pt 1 0), (4, iv (w64 (p0 + p1))), (5, mkV 2 v1229.length), (6, mkV 3 v1230.length), (8, iv v451), (9, iv v1041), (10, iv v1228), (11, pt 4 0), (12, iv (Int.tmod o1274.1 p0)), (13, iv (w64 (p0 + (Int.tmod o1274.1 p1)))), (80, .bool false)]) (H48_26 p2 p0 p1 v1229 v1230 o1274) (TI.ra 7 [1, 4, 5, 6, 8, 9, 10, 11, 12, 13, 87] (st 131 [(1, pt 1 0), (4, iv (w64 (p0 + p1))), (5, mkV 2 v1229.length), (6, mkV 3 v1230.length), (8, iv v451), (9, iv v1041), (10, iv v1228), (11, pt 4 0), (12, iv (Int.tmod o1274.1 p0)), (13, iv (w64 (p0 + (Int.tmod o1274.1 p1)))), (87, .bool false)]) (TI.dn hK)))))))
  · replace hF := of_neg hF hc1272
    refine TS.ex 6 (NX.sqX ?_)
    have hF := Option.some.inj hF
    subst hF
    exact Rd.out (e := .exit 6) (by intro h; cases h) (And.intro rfl (Wk.an [1, 2, 3] (.ac (.lt (.fl (.fl (.sl .nil))) (.cons (At.blk (by kernel_rfl) (RnB.list (fun _ => rfl))) (.cons (At.blk (by kernel_rfl) (RnB.list (fun _ => rfl))) (.nil _))))) [pt 1 0, iv (w64 (p0 + p1)), mkV 2 v1229.length, mkV 3 v1230.length, iv v451, iv v1041] (.pp (.fl (.cons (Rn.mk (Nat.le_of_ble_eq_true rfl) rfl (by simp only [List.length_set])) (.cons (Rn.mk (Nat.le_of_ble_eq_true rfl) rfl (by simp only [List.length_set])) (.fl (.fl .nil))))))))
def P48l2 (p0 : Int) (p1 : Int) (p2 : (List (Int × Int))) (v451 : Int) (r : ((List Int) × (List Int))) : Post := fun e a h => e = .exit 4 ∧ Wk Try.prog 1 1 a h (st 131 [(1, pt 1 0), (4, iv (w64 (p0 + p1))), (5, mkV 2 r.1.length), (6, mkV 3 r.2.length), (8, iv v451)]) [ab 72 e72 p2, cl 28 [iv p0, iv p1, sv 0 p2.length ANY], .cells 3 (List.flatMap e3 r.1), .cells 3 (List.flatMap e3 r.2)]
theorem L48l2 (p0 : Int) (p1 : Int) (p2 : (List (Int × Int))) (v451 : Int) (v1041 : Int) (v1042 : (List Int)) (v1043 : (List Int)) (r : ((List Int) × (List Int))) (hF : F48l2 p0 p1 p2 v451 v1041 v1042 v1043 = some r) : TL Try.prog 1 1 c48.s2.s2.s2.s2.s1.s2.bd.bd.s2.s1.bd.s2.s2.s2.bd.bd (st 131 [(1, pt 1 0), (4, iv (w64 (p0 + p1))), (5, mkV 2 v1042.length), (6, mkV 3 v1043.length), (8, iv v451), (9, iv v1041)]) (H48_28 p2 p0 p1 v1042 v1043) (P48l2 p0 p1 p2 v451 r) := by
  refine F48l2.partial_correctness p0 p1 p2 v451 (motive := fun v1041 v1042 v1043 r => TL Try.prog 1 1 c48.s2.s2.s2.s2.s1.s2.bd.bd.s2.s1.bd.s2.s2.s2.bd.bd (st 131 [(1, pt 1 0), (4, iv (w64 (p0 + p1))), (5, mkV 2 v1042.length), (6, mkV 3 v1043.length), (8, iv v451), (9, iv v1041)]) (H48_28 p2 p0 p1 v1042 v1043) (P48l2 p0 p1 p2 v451 r)) ?_ v1041 v1042 v1043 r hF
  clear hF r v1041 v1042 v1043
  intro again ih v1041 v1042 v1043 r hF
  refine TL.round (TS.sq (TS.sq (TS.rg (TI.ra 3 [1, 4, 5, 6, 8, 9, 47] (st 131 [(1, pt 1 0), (4, iv (w64 (p0 + p1))), (5, mkV 2 v1042.length), (6, mkV 3 v1043.length), (8, iv v451), (9, iv v1041), (47, .bool (decide (v1041 < (w64 (p0 + p1)))))]) (TI.dn (NX.sq ?_))))))
  refine TS.cd (.tmp 47) (decide (v1041 < (w64 (p0 + p1)))) (fun hc1188 => ?_) (fun hc1188 => ?_)
  · replace hF := of_pos hF hc1188
    refine TS.sk (NX.sq (TS.sq (TS.bk 5 (TS.sq (TS.rg (TI.ra 1 [1, 4, 5, 6, 8, 9, 10] (st 131 [(1, pt 1 0), (4, iv (w64 (p0 + p1))), (5, mkV 2 v1042.length), (6, mkV 3 v1043.length), (8, iv v451), (9, iv v1041), (10, iv 0)]) (TI.dn (NX.sq ?_))))))))
    refine TS.bk 6 ?_
    have hX := of_do hF
    clear hF
    obtain ⟨r1328, h1329, hF⟩ := hX
    refine TS.lp (TL.weak (a2 := (st 131 [(1, pt 1 0), (4, iv (w64 (p0 + p1))), (5, mkV 2 v1042.length), (6, mkV 3 v1043.length), (8, iv v451), (9, iv v1041), (10, iv 0)])) (h2 := (H48_28 p2 p0 p1 v1042 v1043)) (Wk.an [1, 2, 3] (.ac (.lt (.fl (.fl (.sl .nil))) (.cons (At.blk (by kernel_rfl) (RnB.list (fun _ => rfl))) (.cons (At.blk (by kernel_rfl) (RnB.list (fun _ => rfl))) (.nil _))))) [pt 1 0, iv (w64 (p0 + p1)), mkV 2 v1042.length, mkV 3 v1043.length, iv v451, iv v1041, iv 0] (.pp (.fl (.cons (Rn.mk (Nat.le_of_ble_eq_true rfl) rfl (by simp only [List.length_set])) (.cons (Rn.mk (Nat.le_of_ble_eq_true rfl) rfl (by simp only [List.length_set])) (.fl (.fl (.fl .nil)))))))) (TL.post (L48l3 p0 p1 p2 v451 v1041 0 v1042 v1043 r1328 h1329) ?_))
    rintro e a1 h1 hp
    obtain ⟨rfl, hw⟩ := hp
    refine ⟨(st 131 [(1, pt 1 0), (4, iv (w64 (p0 + p1))), (5, mkV 2 r1328.1.length), (6, mkV 3 r1328.2.length), (8, iv v451), (9, iv v1041)]), [ab 72 e72 p2, cl 28 [iv p0, iv p1, sv 0 p2.length ANY], .cells 3 (List.flatMap e3 r1328.1), .cells 3 (List.flatMap e3 r1328.2)], (NX.bkX (NX.bk (NX.sq (TS.rg (TI.ra 3 [1, 4, 5, 6, 8, 9] (st 131 [(1, pt 1 0), (4, iv (w64 (p0 + p1))), (5, mkV 2 r1328.1.length), (6, mkV 3 r1328.2.length), (8, iv v451), (9, iv (w64 (v1041 + 1)))]) (TI.dn ?_)))))), hw⟩
    exact Rd.again (a2 := (st 131 [(1, pt 1 0), (4, iv (w64 (p0 + p1))), (5, mkV 2 r1328.1.length), (6, mkV 3 r1328.2.length), (8, iv v451), (9, iv (w64 (v1041 + 1)))])) (h2 := [ab 72 e72 p2, cl 28 [iv p0, iv p1, sv 0 p2.length ANY], .cells 3 (List.flatMap e3 r1328.1), .cells 3 (List.flatMap e3 r1328.2)]) (Wk.an [1, 2, 3] (.ac (.lt (.fl (.fl (.sl .nil))) (.cons (At.blk (by kernel_rfl) (RnB.list (fun _ => rfl))) (.cons (At.blk (by kernel_rfl) (RnB.list (fun _ => rfl))) (.nil _))))) [pt 1 0, iv (w64 (p0 + p1)), mkV 2 r1328.1.length, mkV 3 r1328.2.length, iv v451, iv (w64 (v1041 + 1))] (.pp (.fl (.cons (Rn.mk (Nat.le_of_ble_eq_true rfl) rfl (by simp only [List.length_set])) (.cons (Rn.mk (Nat.le_of_ble_eq_true rfl) rfl (by simp only [List.length_set])) (.fl (.fl .nil))))))) (ih (w64 (v1041 + 1)) r1328.1 r1328.2 _ hF)
  · replace hF := of_neg hF hc1188
    refine TS.ex 4 (NX.sqX ?_)
    have hF := Option.some.inj hF
    subst hF
    exact Rd.out (e := .exit 4) (by intro h; cases h) (And.intro rfl (Wk.an [1, 2, 3] (.ac (.lt (.fl (.fl (.sl .nil))) (.cons (At.blk (by kernel_rfl) (RnB.list (fun _ => rfl))) (.cons (At.blk (by kernel_rfl) (RnB.list (fun _ => rfl))) (.nil _))))) [pt 1 0, iv (w64 (p0 + p1)), mkV 2 v1042.length, mkV 3 v1043.length, iv v451] (.pp (.fl (.cons (Rn.mk (Nat.le_of_ble_eq_true rfl) rfl (by simp only [List.length_set])) (.cons (Rn.mk (Nat.le_of_ble_eq_true rfl) rfl (by simp only [List.length_set])) (.fl .nil)))))))
def P48l1 (p0 : Int) (p1 : Int) (p2 : (List (Int × Int))) (r : ((List Int) × (List Int))) : Post := fun e a h => e = .exit 2 ∧ Wk Try.prog 1 1 a h (st 131 [(5, mkV 1 r.1.length), (6, mkV 2 r.2.length)]) [ab 72 e72 p2, .cells 3 (List.flatMap e3 r.1), .cells 3 (List.flatMap e3 r.2)]
theorem L48l1 (p0 : Int) (p1 : Int) (p2 : (List (Int × Int))) (v451 : Int) (v452 : (List Int)) (v453 : (List Int)) (r : ((List Int) × (List Int))) (hF : F48l1 p0 p1 p2 v451 v452 v453 = some r) : TL Try.prog 1 1 c48.s2.s2.s2.s2.s1.s2.bd.bd (S48_32 p0 p1 v452 v453 v451) (H48_29 p2 p0 p1 v452 v453) (P48l1 p0 p1 p2 r) := by
  refine F48l1.partial_correctness p0 p1 p2 (motive := fun v451 v452 v453 r => TL Try.prog 1 1 c48.s2.s2.s2.s2.s1.s2.bd.bd (S48_32 p0 p1 v452 v453 v451) (H48_29 p2 p0 p1 v452 v453) (P48l1 p0 p1 p2 r)) ?_ v451 v452 v453 r hF
  clear hF r v451 v452 v453
  intro again ih v451 v452 v453 r hF
  refine TL.round (TS.sq (TS.sq (TS.rg (TI.ra 3 [1, 4, 5, 6, 8, 33] (st 131 [(1, pt 1 0), (4, iv (w64 (p0 + p1))), (5, mkV 2 v452.length), (6, mkV 3 v453.length), (8, iv v451), (33, .bool (decide (v451 < (w64 (p0 + p1)))))]) (TI.dn (NX.sq ?_))))))
  refine TS.cd (.tmp 33) (decide (v451 < (w64 (p0 + p1)))) (fun hc894 => ?_) (fun hc894 => ?_)
  · replace hF := of_pos hF hc894
    refine TS.sk (NX.sq (TS.sq (TS.bk 3 (TS.sq (TS.sq ?_)))))
    have hX := of_guard hF
    clear hF
    obtain ⟨hg895, hF⟩ := hX
    have hX := of_do hF
    clear hF
    obtain ⟨o896, h897, hF⟩ := hX
    replace h897 := Option.some.inj h897
    refine TS.rg (TI.ra 2 [1, 4, 5, 6, 8, 36, 37] (st 131 [(1, pt 1 0), (4, iv (w64 (p0 + p1))), (5, mkV 2 v452.length), (6, mkV 3 v453.length), (8, iv v451), (36, mkV 2 v452.length), (37, iv v451)]) (TI.o { val := .pointer (some ⟨2, 0 + (Int.toNat v451) * 1, none⟩) } (q_ixS 2 0 ((Int.toNat v451) * 1) (by kernel_rfl) hg895) [1, 4, 5, 6, 8, 38] [0, 1, 2, 3] (st 131 [(1, pt 1 0), (4, iv (w64 (p0 + p1))), (5, mkV 2 v452.length), (6, mkV 3 v453.length), (8, iv v451), (38, .pointer (some ⟨2, 0 + (Int.toNat v451) * 1, none⟩))]) (H48_29 p2 p0 p1 v452 v453) (TI.o { val := iv o896 } (q_n1 Try.prog (H48_29 p2 p0 p1 v452 v453) 3 2 (0 + (Int.toNat v451) * 1) v452 e3 1 3 (Int.toNat v451) 0 0 h897) [1, 4, 5, 6, 8, 39] [0, 1, 2, 3] (st 131 [(1, pt 1 0), (4, iv (w64 (p0 + p1))), (5, mkV 2 v452.length), (6, mkV 3 v453.length), (8, iv v451), (39, iv o896)]) (H48_29 p2 p0 p1 v452 v453) (TI.ra 1 [1, 4, 5, 6, 8, 40] (st 131 [(1, pt 1 0), (4, iv (w64 (p0 + p1))), (5, mkV 2 v452.length), (6, mkV 3 v453.length), (8, iv v451), (40, .bool (decide (o896 ≥ 0)))]) (TI.dn (NX.sq ?_))))))
    refine TS.cd (.tmp 40) (decide (o896 ≥ 0)) (fun hc898 => ?_) (fun hc898 => ?_)
    · replace hF := of_pos hF hc898
      refine TS.ex 3 (NX.sqX (NX.bkX (NX.sq (TS.rg (TI.ra 3 [1, 4, 5, 6, 8] (st 131 [(1, pt 1 0), (4, iv (w64 (p0 + p1))), (5, mkV 2 v452.length), (6, mkV 3 v453.length), (8, iv (w64 (v451 + 1)))]) (TI.dn ?_))))))
      exact Rd.again (a2 := (st 131 [(1, pt 1 0), (4, iv (w64 (p0 + p1))), (5, mkV 2 v452.length), (6, mkV 3 v453.length), (8, iv (w64 (v451 + 1)))])) (h2 := (H48_29 p2 p0 p1 v452 v453)) (Wk.an [1, 2, 3] (.ac (.lt (.fl (.fl (.sl .nil))) (.cons (At.blk (by kernel_rfl) (RnB.list (fun _ => rfl))) (.cons (At.blk (by kernel_rfl) (RnB.list (fun _ => rfl))) (.nil _))))) [pt 1 0, iv (w64 (p0 + p1)), mkV 2 v452.length, mkV 3 v453.length, iv (w64 (v451 + 1))] (.pp (.fl (.cons (Rn.mk (Nat.le_of_ble_eq_true rfl) rfl (by simp only [List.length_set])) (.cons (Rn.mk (Nat.le_of_ble_eq_true rfl) rfl (by simp only [List.length_set])) (.fl .nil)))))) (ih (w64 (v451 + 1)) v452 v453 _ hF)
    · replace hF := of_neg hF hc898
      refine TS.sk (NX.sq (TS.sq (TS.rg (TI.ra 3 [1, 4, 5, 6, 8, 41, 42, 43] (st 131 [(1, pt 1 0), (4, iv (w64 (p0 + p1))), (5, mkV 2 v452.length), (6, mkV 3 v453.length), (8, iv v451), (41, mkV 2 v452.length), (42, iv v451), (43, iv v451)]) (TI.o { val := .pointer (some ⟨2, 0 + (Int.toNat v451) * 1, none⟩) } (q_ixS 2 0 ((Int.toNat v451) * 1) (by kernel_rfl) hg895) [1, 4, 5, 6, 8, 43, 44] [0, 1, 2, 3] (st 131 [(1, pt 1 0), (4, iv (w64 (p0 + p1))), (5, mkV 2 v452.length), (6, mkV 3 v453.length), (8, iv v451), (43, iv v451), (44, .pointer (some ⟨2, 0 + (Int.toNat v451) * 1, none⟩))]) (H48_29 p2 p0 p1 v452 v453) ?_)))))
      refine TI.o { val := undef, upd := some (2, .cells 3 (List.flatMap e3 (List.set v452 (Int.toNat v451) v451))) } (q_stP Try.prog 1 (H48_29 p2 p0 p1 v452 v453) 3 2 (0 + (Int.toNat v451) * 1) v452 e3 1 3 (Int.toNat v451) 0 1 (iv v451) [iv v451] 0 v451 (by first | omega | (simp <;> omega))) [1, 4, 5, 6, 8] [0, 1, 2, 3] (S48_32 p0 p1 v452 v453 v451) [ab 72 e72 p2, cl 28 [iv p0, iv p1, sv 0 p2.length ANY], .cells 3 (List.flatMap e3 (List.set v452 (Int.toNat v451) v451)), .cells 3 (List.flatMap e3 v453)] (TI.dn (NX.sq (TS.sq (TS.rg (TI.ra 1 [1, 4, 5, 6, 8, 9] (st 131 [(1, pt 1 0), (4, iv (w64 (p0 + p1))), (5, mkV 2 v452.length), (6, mkV 3 v453.length), (8, iv v451), (9, iv 0)]) (TI.dn (NX.sq (TS.bk 4 ?_))))))))
      have hX := of_do hF
      clear hF
      obtain ⟨r1330, h1331, hF⟩ := hX
      refine TS.lp (TL.weak (a2 := (st 131 [(1, pt 1 0), (4, iv (w64 (p0 + p1))), (5, mkV 2 (List.length (List.set v452 (Int.toNat v451) v451))), (6, mkV 3 v453.length), (8, iv v451), (9, iv 0)])) (h2 := [ab 72 e72 p2, cl 28 [iv p0, iv p1, sv 0 p2.length ANY], .cells 3 (List.flatMap e3 (List.set v452 (Int.toNat v451) v451)), .cells 3 (List.flatMap e3 v453)]) (Wk.an [1, 2, 3] (.ac (.lt (.fl (.fl (.sl .nil))) (.cons (At.blk (by kernel_rfl) (RnB.list (fun _ => rfl))) (.cons (At.blk (by kernel_rfl) (RnB.list (fun _ => rfl))) (.nil _))))) [pt 1 0, iv (w64 (p0 + p1)), mkV 2 v452.length, mkV 3 v453.length, iv v451, iv 0] (.pp (.fl (.cons (Rn.mk (Nat.le_of_ble_eq_true rfl) rfl (by simp only [List.length_set])) (.cons (Rn.mk (Nat.le_of_ble_eq_true rfl) rfl (by simp only [List.length_set])) (.fl (.fl .nil))))))) (TL.post (L48l2 p0 p1 p2 v451 0 (List.set v452 (Int.toNat v451) v451) v453 r1330 h1331) ?_))
      rintro e a1 h1 hp
      obtain ⟨rfl, hw⟩ := hp
      refine ⟨(st 131 [(1, pt 1 0), (4, iv (w64 (p0 + p1))), (5, mkV 2 r1330.1.length), (6, mkV 3 r1330.2.length), (8, iv v451)]), [ab 72 e72 p2, cl 28 [iv p0, iv p1, sv 0 p2.length ANY], .cells 3 (List.flatMap e3 r1330.1), .cells 3 (List.flatMap e3 r1330.2)], (NX.bkX (NX.bk (NX.sq (TS.rg (TI.ra 3 [1, 4, 5, 6, 8] (st 131 [(1, pt 1 0), (4, iv (w64 (p0 + p1))), (5, mkV 2 r1330.1.length), (6, mkV 3 r1330.2.length), (8, iv (w64 (v451 + 1)))]) (TI.dn ?_)))))), hw⟩
      exact Rd.again (a2 := (st 131 [(1, pt 1 0), (4, iv (w64 (p0 + p1))), (5, mkV 2 r1330.1.length), (6, mkV 3 r1330.2.length), (8, iv (w64 (v451 + 1)))])) (h2 := [ab 72 e72 p2, cl 28 [iv p0, iv p1, sv 0 p2.length ANY], .cells 3 (List.flatMap e3 r1330.1), .cells 3 (List.flatMap e3 r1330.2)]) (Wk.an [1, 2, 3] (.ac (.lt (.fl (.fl (.sl .nil))) (.cons (At.blk (by kernel_rfl) (RnB.list (fun _ => rfl))) (.cons (At.blk (by kernel_rfl) (RnB.list (fun _ => rfl))) (.nil _))))) [pt 1 0, iv (w64 (p0 + p1)), mkV 2 r1330.1.length, mkV 3 r1330.2.length, iv (w64 (v451 + 1))] (.pp (.fl (.cons (Rn.mk (Nat.le_of_ble_eq_true rfl) rfl (by simp only [List.length_set])) (.cons (Rn.mk (Nat.le_of_ble_eq_true rfl) rfl (by simp only [List.length_set])) (.fl .nil)))))) (ih (w64 (v451 + 1)) r1330.1 r1330.2 _ hF)
  · replace hF := of_neg hF hc894
    refine TS.ex 2 (NX.sqX ?_)
    have hF := Option.some.inj hF
    subst hF
    exact Rd.out (e := .exit 2) (by intro h; cases h) (And.intro rfl (Wk.an [2, 3] (.ac (.cons (At.blk (by kernel_rfl) (RnB.list (fun _ => rfl))) (.cons (At.blk (by kernel_rfl) (RnB.list (fun _ => rfl))) (.nil _)))) [mkV 2 v452.length, mkV 3 v453.length] (.cons (Rn.mk (Nat.le_of_ble_eq_true rfl) rfl (by simp only [List.length_set])) (.cons (Rn.mk (Nat.le_of_ble_eq_true rfl) rfl (by simp only [List.length_set])) .nil))))
theorem B48 (p0 : Int) (p1 : Int) (p2 : (List (Int × Int))) (r : ((List Int) × (List Int))) (hF : F48 p0 p1 p2 = some r) : TS Try.prog 1 1 c48 (st 131 [(0, ag [iv p0, iv p1, sv 0 p2.length ANY])]) [ab 72 e72 p2] (NX Try.prog 1 1 [] (FinP Try.prog Try.f48 1 (V48 1 r) (N48 1 r))) := by
  unfold F48 at hF
  refine TS.sq (TS.rg (TI.rn 3 [1] [0, 1] (st 131 [(1, pt 1 0)]) [ab 72 e72 p2, cl 28 [iv p0, iv p1, sv 0 p2.length ANY]] (TI.dn (NX.sq (TS.sq (TS.rg (TI.ra 6 [1, 4] (st 131 [(1, pt 1 0), (4, iv (w64 (p0 + p1)))]) (TI.dn ?_))))))))
  refine NX.sq (TS.sq ?_)
  have hX := of_guard hF
  clear hF
  obtain ⟨hg1, hF⟩ := hX
  refine TS.dp [] (fun e he => by cases he) mixed 5 [1, 4, 5, 6] [0, 1, 2, 3] (st 131 [(1, pt 1 0), (4, iv (w64 (p0 + p1))), (5, mkV 2 (List.length (List.replicate (Int.toNat (w64 (p0 + p1))) (0 : Int)))), (6, mkV 3 (List.length (List.replicate (Int.toNat (w64 (p0 + p1))) (0 : Int))))]) (H48_18 p2 p0 p1) ?_ ?_
  · exact QJ.rn (qs (st 131 [(1, pt 1 0), (4, iv (w64 (p0 + p1))), (19, iv (w64 (p0 + p1)))]) [ab 72 e72 p2, cl 28 [iv p0, iv p1, sv 0 p2.length ANY]] [] []) 1 (QJ.o { val := mkV 2 (List.length (List.replicate (Int.toNat (w64 (p0 + p1))) (0 : Int))), new := [.cells 3 (List.flatMap e3 (List.replicate (Int.toNat (w64 (p0 + p1))) (0 : Int)))] } (q_make (P := Try.prog) (n := 2) (t := 30) (enc := e3) (s := 1) (e := 3) (y := w64 (p0 + p1)) (z := iv 0) (bytes := 8) (0 : Int) (by kernel_rfl) (by kernel_rfl) (by kernel_rfl) (by kernel_rfl) (by kernel_rfl) (by kernel_rfl) rfl hg1 (by decide)) (QJ.rn (qs (st 131 [(1, pt 1 0), (4, iv (w64 (p0 + p1))), (19, iv (w64 (p0 + p1))), (20, mkV 2 (List.length (List.replicate (Int.toNat (w64 (p0 + p1))) (0 : Int)))), (21, iv (w64 (p0 + p1)))]) [ab 72 e72 p2, cl 28 [iv p0, iv p1, sv 0 p2.length ANY], .cells 3 (List.flatMap e3 (List.replicate (Int.toNat (w64 (p0 + p1))) (0 : Int)))] [(1, 2, 3)] []) 1 (QJ.o { val := mkV 3 (List.length (List.replicate (Int.toNat (w64 (p0 + p1))) (0 : Int))), new := [.cells 3 (List.flatMap e3 (List.replicate (Int.toNat (w64 (p0 + p1))) (0 : Int)))] } (q_make (P := Try.prog) (n := 3) (t := 30) (enc := e3) (s := 1) (e := 3) (y := w64 (p0 + p1)) (z := iv 0) (bytes := 8) (0 : Int) (by kernel_rfl) (by kernel_rfl) (by kernel_rfl) (by kernel_rfl) (by kernel_rfl) (by kernel_rfl) rfl hg1 (by decide)) (QJ.rn (qs (st 131 [(1, pt 1 0), (4, iv (w64 (p0 + p1))), (5, mkV 2 (List.length (List.replicate (Int.toNat (w64 (p0 + p1))) (0 : Int)))), (19, iv (w64 (p0 + p1))), (20, mkV 2 (List.length (List.replicate (Int.toNat (w64 (p0 + p1))) (0 : Int)))), (21, iv (w64 (p0 + p1))), (22, mkV 3 (List.length (List.replicate (Int.toNat (w64 (p0 + p1))) (0 : Int))))]) (H48_18 p2 p0 p1) [(3, 3, 4), (1, 2, 3)] []) 1 (QJ.dn ⟨rfl, SJ.la⟩)))))
  refine TS.sq (TS.sq (TS.rg (TI.ra 1 [1, 4, 5, 6, 7] (S48_25 p0 p1) (TI.dn (NX.sq (TS.bk 0 ?_))))))
  have hX := of_do hF
  clear hF
  obtain ⟨r11, h12, hF⟩ := hX
  refine TS.lp (TL.weak (a2 := (S48_25 p0 p1)) (h2 := (H48_18 p2 p0 p1)) (Wk.an [1, 2, 3] (.ac (.lt (.fl (.fl (.sl .nil))) (.cons (At.blk (by kernel_rfl) (RnB.list (fun _ => rfl))) (.cons (At.blk (by kernel_rfl) (RnB.list (fun _ => rfl))) (.nil _))))) [pt 1 0, iv (w64 (p0 + p1)), mkV 2 (List.length (List.replicate (Int.toNat (w64 (p0 + p1))) (0 : Int))), mkV 3 (List.length (List.replicate (Int.toNat (w64 (p0 + p1))) (0 : Int))), iv 0] (.pp (.fl (.cons (Rn.mk (Nat.le_of_ble_eq_true rfl) rfl (by simp only [List.length_set])) (.cons (Rn.mk (Nat.le_of_ble_eq_true rfl) rfl (by simp only [List.length_set])) (.fl .nil)))))) (TL.post (L48l0 p0 p1 p2 0 (List.replicate (Int.toNat (w64 (p0 + p1))) (0 : Int)) r11 h12) ?_))
  rintro e a1 h1 hp
  obtain ⟨rfl, hw⟩ := hp
  refine ⟨(st 131 [(1, pt 1 0), (4, iv (w64 (p0 + p1))), (5, mkV 2 r11.length), (6, mkV 3 (List.length (List.replicate (Int.toNat (w64 (p0 + p1))) (0 : Int))))]), (H48_22 p2 p0 p1 r11), (NX.bkX (NX.sq (TS.sq (TS.sq (TS.rg (TI.ra 1 [1, 4, 5, 6, 8] (S48_31 p0 p1 r11) (TI.dn (NX.sq ?_)))))))), hw⟩
  refine TS.bk 2 ?_
  have hX := of_do hF
  clear hF
  obtain ⟨r1332, h1333, hF⟩ := hX
  refine TS.lp (TL.weak (a2 := (S48_31 p0 p1 r11)) (h2 := (H48_22 p2 p0 p1 r11)) (Wk.an [1, 2, 3] (.ac (.lt (.fl (.fl (.sl .nil))) (.cons (At.blk (by kernel_rfl) (RnB.list (fun _ => rfl))) (.cons (At.blk (by kernel_rfl) (RnB.list (fun _ => rfl))) (.nil _))))) [pt 1 0, iv (w64 (p0 + p1)), mkV 2 r11.length, mkV 3 (List.length (List.replicate (Int.toNat (w64 (p0 + p1))) (0 : Int))), iv 0] (.pp (.fl (.cons (Rn.mk (Nat.le_of_ble_eq_true rfl) rfl (by simp only [List.length_set])) (.cons (Rn.mk (Nat.le_of_ble_eq_true rfl) rfl (by simp only [List.length_set])) (.fl .nil)))))) (TL.post (L48l1 p0 p1 p2 0 r11 (List.replicate (Int.toNat (w64 (p0 + p1))) (0 : Int)) r1332 h1333) ?_))
  rintro e a1 h1 hp
  obtain ⟨rfl, hw⟩ := hp
  refine ⟨(st 131 [(5, mkV 1 r1332.1.length), (6, mkV 2 r1332.2.length)]), [ab 72 e72 p2, .cells 3 (List.flatMap e3 r1332.1), .cells 3 (List.flatMap e3 r1332.2)], (NX.bkX (NX.sq (TS.sq (TS.rg (TI.ra 4 [2, 3] (st 131 [(2, mkV 1 r1332.1.length), (3, mkV 2 r1332.2.length)]) (TI.dn (NX.sq (TS.rt ?_)))))))), hw⟩
  have hF := Option.some.inj hF
  subst hF
  exact ⟨.inr rfl, rfl, .tuple ⟨[mkV 1 r1332.1.length, mkV 2 r1332.2.length]⟩, by kernel_rfl, WkV.made (L := 1) (f := [1, 2]) (by decide) (by decide) rfl (.cons (At.blk (by kernel_rfl) (RnB.list (fun _ => rfl))) (.cons (At.blk (by kernel_rfl) (RnB.list (fun _ => rfl))) (.nil _))) (Rn.tuple' (.cons (Rn.mk (Nat.le_of_ble_eq_true rfl) rfl (by simp only [List.length_set])) (.cons (Rn.mk (Nat.le_of_ble_eq_true rfl) rfl (by simp only [List.length_set])) .nil)))⟩
theorem C48 (p0 : Int) (p1 : Int) (p2 : (List (Int × Int))) (r : ((List Int) × (List Int))) (hF : F48 p0 p1 p2 = some r) : PureSim Try.prog 48 [ag [iv p0, iv p1, sv 0 p2.length ANY]] [ab 72 e72 p2] (V48 1 r) (N48 1 r) :=
  PureSim.of_Fin Try.func48 (c := c48) (by kernel_rfl) (by kernel_rfl) 1 rfl [0] [0] (by kernel_rfl) (B48 p0 p1 p2 r hF)
noncomputable def c50 : Code := Try.f50.code
def H50_0 (p2 : (List (Int × Int))) (p0 : Int) (p1 : Int) (r1 : ((List Int) × (List Int))) (o32 : (Int × Int)) : List Blk := [ab 72 e72 p2, cl 28 [iv p0, iv p1, sv 0 p2.length ANY], .cells 3 (List.flatMap e3 r1.2), cl 72 [iv o32.1, iv o32.2]]
def H50_1 (p2 : (List (Int × Int))) (p0 : Int) (p1 : Int) (r1 : ((List Int) × (List Int))) : List Blk := [ab 72 e72 p2, cl 28 [iv p0, iv p1, sv 0 p2.length ANY], .cells 3 (List.flatMap e3 r1.2)]
def F50l0 (p0 : Int) (p1 : Int) (p2 : (List (Int × Int))) (r1 : ((List Int) × (List Int))) (v16 : Int) : Option (Unit ⊕ Unit) :=
    if decide (v16 < (p2.length : Int)) then
      if (0 : Int) ≤ v16 ∧ v16 < (p2.length : Int) then
        some (List.getD p2 (Int.toNat v16) (0, 0)) >>= fun o32 =>
        if p0 = 0 then none else
        if (0 : Int) ≤ Int.tmod o32.1 p0 ∧ Int.tmod o32.1 p0 < (r1.2.length : Int) then
          some (List.getD r1.2 (Int.toNat (Int.tmod o32.1 p0)) 0) >>= fun o36 =>
          if p1 = 0 then none else
          if (0 : Int) ≤ w64 (p0 + (Int.tmod o32.1 p1)) ∧ w64 (p0 + (Int.tmod o32.1 p1)) < (r1.2.length : Int) then
            some (List.getD r1.2 (Int.toNat (w64 (p0 + (Int.tmod o32.1 p1)))) 0) >>= fun o40 =>
            if (w64 (o36 + o40)) != o32.2 then
              some (.inl ())
            else
              F50l0 p0 p1 p2 r1 (w64 (v16 + 1))
          else none
        else none
      else none
    else
      some (.inr ())
  partial_fixpoint
def F50 (p0 : Int) (p1 : Int) (p2 : (List (Int × Int))) : Option Bool :=
  F48 p0 p1 p2 >>= fun r1 =>
  F50l0 p0 p1 p2 r1 0 >>= fun r43 =>
  match r43 with
  | .inl o45 =>
    some false
  | .inr o46 =>
    some true
def V50 (b : Nat) (r : Bool) : Value := .bool r
def N50 (b : Nat) (r : Bool) : List Blk := []
def P50l0 (p0 : Int) (p1 : Int) (p2 : (List (Int × Int))) (r1 : ((List Int) × (List Int))) (r : (Unit ⊕ Unit)) : Post := fun e a h => (match r with | .inl q0 => e = .ret ∧ Wk Try.prog 1 1 a h (st 47 [(2, .bool false)]) [ab 72 e72 p2] | .inr q0 => e = .exit 0 ∧ Wk Try.prog 1 1 a h (st 47 []) [ab 72 e72 p2])
theorem L50l0 (p0 : Int) (p1 : Int) (p2 : (List (Int × Int))) (r1 : ((List Int) × (List Int))) (v16 : Int) (r : (Unit ⊕ Unit)) (hF : F50l0 p0 p1 p2 r1 v16 = some r) : TL Try.prog 1 1 c50.s2.s2.s1.s2.bd.bd (st 47 [(1, pt 1 0), (4, mkV 2 r1.2.length), (5, iv v16)]) (H50_1 p2 p0 p1 r1) (P50l0 p0 p1 p2 r1 r) := by
  refine F50l0.partial_correctness p0 p1 p2 r1 (motive := fun v16 r => TL Try.prog 1 1 c50.s2.s2.s1.s2.bd.bd (st 47 [(1, pt 1 0), (4, mkV 2 r1.2.length), (5, iv v16)]) (H50_1 p2 p0 p1 r1) (P50l0 p0 p1 p2 r1 r)) ?_ v16 r hF
  clear hF r v16
  intro again ih v16 r hF
  refine TL.round (TS.sq (TS.sq (TS.rg (TI.ra 5 [1, 4, 5, 16] (st 47 [(1, pt 1 0), (4, mkV 2 r1.2.length), (5, iv v16), (16, .bool (decide (v16 < (p2.length : Int))))]) (TI.dn (NX.sq ?_))))))
  refine TS.cd (.tmp 16) (decide (v16 < (p2.length : Int))) (fun hc30 => ?_) (fun hc30 => ?_)
  · replace hF := of_pos hF hc30
    refine TS.sk (NX.sq (TS.sq (TS.bk 1 (TS.sq ?_))))
    have hX := of_guard hF
    clear hF
    obtain ⟨hg31, hF⟩ := hX
    have hX := of_do hF
    clear hF
    obtain ⟨o32, h33, hF⟩ := hX
    replace h33 := Option.some.inj h33
    refine TS.rg (TI.ra 3 [1, 4, 5, 20, 21] (st 47 [(1, pt 1 0), (4, mkV 2 r1.2.length), (5, iv v16), (20, sv 0 p2.length ANY), (21, iv v16)]) (TI.o { val := .pointer (some ⟨0, 0 + (Int.toNat v16) * 2, none⟩) } (q_ixS 0 0 ((Int.toNat v16) * 2) (by kernel_rfl) hg31) [1, 4, 5, 22] [0, 1, 2] (st 47 [(1, pt 1 0), (4, mkV 2 r1.2.length), (5, iv v16), (22, .pointer (some ⟨0, 0 + (Int.toNat v16) * 2, none⟩))]) (H50_1 p2 p0 p1 r1) (TI.o { val := ag [iv o32.1, iv o32.2] } (q_nAa Try.prog (H50_1 p2 p0 p1 r1) 72 0 (0 + (Int.toNat v16) * 2) p2 e72 2 72 (Int.toNat v16) (0, 0) h33) [1, 4, 5, 23] [0, 1, 2] (st 47 [(1, pt 1 0), (4, mkV 2 r1.2.length), (5, iv v16), (23, ag [iv o32.1, iv o32.2])]) (H50_1 p2 p0 p1 r1) (TI.rn 2 [1, 4, 5, 6] [0, 1, 2, 3] (st 47 [(1, pt 1 0), (4, mkV 2 r1.2.length), (5, iv v16), (6, pt 3 0)]) (H50_0 p2 p0 p1 r1 o32) (TI.dn (NX.sq (TS.sq ?_)))))))
    have hX := of_guardn hF
    clear hF
    obtain ⟨hg34, hF⟩ := hX
    have hX := of_guard hF
    clear hF
    obtain ⟨hg35, hF⟩ := hX
    have hX := of_do hF
    clear hF
    obtain ⟨o36, h37, hF⟩ := hX
    replace h37 := Option.some.inj h37
    have hX := of_guardn hF
    clear hF
    obtain ⟨hg38, hF⟩ := hX
    have hX := of_guard hF
    clear hF
    obtain ⟨hg39, hF⟩ := hX
    have hX := of_do hF
    clear hF
    obtain ⟨o40, h41, hF⟩ := hX
    replace h41 := Option.some.inj h41
    refine TS.dp [] (fun e he => by cases he) mixed 22 [1, 4, 5, 46] [0, 1, 2] (st 47 [(1, pt 1 0), (4, mkV 2 r1.2.length), (5, iv v16), (46, .bool ((w64 (o36 + o40)) != o32.2))]) [ab 72 e72 p2, cl 28 [iv p0, iv p1, sv 0 p2.length ANY], .cells 3 (List.flatMap e3 r1.2), .dead] ?_ ?_
    · refine QJ.rn (qs (st 47 [(1, pt 1 0), (4, mkV 2 r1.2.length), (5, iv v16), (6, pt 3 0), (24, mkV 2 r1.2.length), (25, pt 3 0), (26, iv o32.1), (27, pt 1 0), (28, iv p0)]) (H50_0 p2 p0 p1 r1 o32) [] []) 5 (QJ.o { val := iv (Int.tmod o32.1 p0) } (q_int (P := Try.prog) (op := .rem) (ty := 3) (ox := (.tmp 26)) (oy := (.tmp 28)) (k := .i64) (k' := .i64) (y := o32.1) (z := p0) (by kernel_rfl) (rem_ok hg34)) (QJ.o { val := .pointer (some ⟨2, 0 + (Int.toNat (Int.tmod o32.1 p0)) * 1, none⟩) } (q_ixS 2 0 ((Int.toNat (Int.tmod o32.1 p0)) * 1) (by kernel_rfl) hg35) (QJ.o { val := iv o36 } (q_n1 Try.prog (H50_0 p2 p0 p1 r1 o32) 3 2 (0 + (Int.toNat (Int.tmod o32.1 p0)) * 1) r1.2 e3 1 3 (Int.toNat (Int.tmod o32.1 p0)) 0 0 h37) (QJ.rn (qs (st 47 [(1, pt 1 0), (4, mkV 2 r1.2.length), (5, iv v16), (6, pt 3 0), (24, mkV 2 r1.2.length), (25, pt 3 0), (26, iv o32.1), (27, pt 1 0), (28, iv p0), (29, iv (Int.tmod o32.1 p0)), (30, .pointer (some ⟨2, 0 + (Int.toNat (Int.tmod o32.1 p0)) * 1, none⟩)), (31, iv o36), (32, mkV 2 r1.2.length), (33, pt 1 0), (34, iv p0), (35, pt 3 0), (36, iv o32.1), (37, pt 1 1), (38, iv p1)]) (H50_0 p2 p0 p1 r1 o32) [] []) 7 (QJ.o { val := iv (Int.tmod o32.1 p1) } (q_int (P := Try.prog) (op := .rem) (ty := 3) (ox := (.tmp 36)) (oy := (.tmp 38)) (k := .i64) (k' := .i64) (y := o32.1) (z := p1) (by kernel_rfl) (rem_ok hg38)) (QJ.rn (qs (st 47 [(1, pt 1 0), (4, mkV 2 r1.2.length), (5, iv v16), (6, pt 3 0), (24, mkV 2 r1.2.length), (25, pt 3 0), (26, iv o32.1), (27, pt 1 0), (28, iv p0), (29, iv (Int.tmod o32.1 p0)), (30, .pointer (some ⟨2, 0 + (Int.toNat (Int.tmod o32.1 p0)) * 1, none⟩)), (31, iv o36), (32, mkV 2 r1.2.length), (33, pt 1 0), (34, iv p0), (35, pt 3 0), (36, iv o32.1), (37, pt 1 1), (38, iv p1), (39, iv (Int.tmod o32.1 p1)), (40, iv (w64 (p0 + (Int.tmod o32.1 p1))))]) (H50_0 p2 p0 p1 r1 o32) [] []) 1 (QJ.o { val := .pointer (some ⟨2, 0 + (Int.toNat (w64 (p0 + (Int.tmod o32.1 p1)))) * 1, none⟩) } (q_ixS 2 0 ((Int.toNat (w64 (p0 + (Int.tmod o32.1 p1)))) * 1) (by kernel_rfl) hg39) (QJ.o { val := iv o40 } (q_n1 Try.prog (H50_0 p2 p0 p1 r1 o32) 3 2 (0 + (Int.toNat (w64 (p0 + (Int.tmod o32.1 p1)))) * 1) r1.2 e3 1 3 (Int.toNat (w64 (p0 + (Int.tmod o32.1 p1)))) 0 0 h41) ?_))))))))
      exact QJ.rn (qs (st 47 [(1, pt 1 0), (4, mkV 2 r1.2.length), (5, iv v16), (6, pt 3 0), (24, mkV 2 r1.2.length), (25, pt 3 0), (26, iv o32.1), (27, pt 1 0), (28, iv p0), (29, iv (Int.tmod o32.1 p0)), (30, .pointer (some ⟨2, 0 + (Int.toNat (Int.tmod o32.1 p0)) * 1, none⟩)), (31, iv o36), (32, mkV 2 r1.2.length), (33, pt 1 0), (34, iv p0), (35, pt 3 0), (36, iv o32.1), (37, pt 1 1), (38, iv p1), (39, iv (Int.tmod o32.1 p1)), (40, iv (w64 (p0 + (Int.tmod o32.1 p1)))), (41, .pointer (some ⟨2, 0 + (Int.toNat (w64 (p0 + (Int.tmod o32.1 p1)))) * 1, none⟩)), (42, iv o40), (43, iv (w64 (o36 + o40))), (44, pt 3 1), (45, iv o32.2)]) (H50_0 p2 p0 p1 r1 o32) [] []) 3 (QJ.dn ⟨rfl, SJ.la⟩)
    refine TS.cd (.tmp 46) ((w64 (o36 + o40)) != o32.2) (fun hc42 => ?_) (fun hc42 => ?_)
    · replace hF := of_pos hF hc42
      refine TS.sq (TS.rg (TI.rn 1 [2] [0] (st 47 [(2, .bool false)]) [ab 72 e72 p2, .dead, .dead, .dead] (TI.dn (NX.sq (TS.rt (NX.bkR (NX.sqR ?_)))))))
      have hF := Option.some.inj hF
      subst hF
      exact Rd.out (e := .ret) (by intro h; cases h) (And.intro rfl (Wk.an [] (.ac (.nil _)) [.bool false] (.fl .nil)))
    · replace hF := of_neg hF hc42
      refine TS.sk (NX.bk (NX.sq (TS.rg (TI.ra 3 [1, 4, 5] (st 47 [(1, pt 1 0), (4, mkV 2 r1.2.length), (5, iv (w64 (v16 + 1)))]) (TI.dn ?_)))))
      exact Rd.again (a2 := (st 47 [(1, pt 1 0), (4, mkV 2 r1.2.length), (5, iv (w64 (v16 + 1)))])) (h2 := (H50_1 p2 p0 p1 r1)) (Wk.an [1, 2] (.ac (.lt (.fl (.fl (.sl .nil))) (.cons (At.blk (by kernel_rfl) (RnB.list (fun _ => rfl))) (.nil _)))) [pt 1 0, mkV 2 r1.2.length, iv (w64 (v16 + 1))] (.pp (.cons (Rn.mk (Nat.le_of_ble_eq_true rfl) rfl (by simp only [List.length_set])) (.fl .nil)))) (ih (w64 (v16 + 1)) _ hF)
  · replace hF := of_neg hF hc30
    refine TS.ex 0 (NX.sqX ?_)
    have hF := Option.some.inj hF
    subst hF
    exact Rd.out (e := .exit 0) (by intro h; cases h) (And.intro rfl (Wk.an [] (.ac (.nil _)) [] .nil))
theorem B50 (p0 : Int) (p1 : Int) (p2 : (List (Int × Int))) (r : Bool) (hF : F50 p0 p1 p2 = some r) : TS Try.prog 1 1 c50 (st 47 [(0, ag [iv p0, iv p1, sv 0 p2.length ANY])]) [ab 72 e72 p2] (NX Try.prog 1 1 [] (FinP Try.prog Try.f50 1 (V50 1 r) (N50 1 r))) := by
  unfold F50 at hF
  refine TS.sq (TS.rg (TI.rn 2 [1] [0, 1] (st 47 [(1, pt 1 0)]) [ab 72 e72 p2, cl 28 [iv p0, iv p1, sv 0 p2.length ANY]] (TI.dn (NX.sq (TS.sq ?_)))))
  have hX := of_do hF
  clear hF
  obtain ⟨r1, h2, hF⟩ := hX
  refine TS.rg (TI.ra 1 [1, 8] (st 47 [(1, pt 1 0), (8, ag [iv p0, iv p1, sv 0 p2.length ANY])]) (TI.cp 48 [ag [iv p0, iv p1, sv 0 p2.length ANY]] (.tuple ⟨[mkV 2 r1.1.length, mkV 3 r1.2.length]⟩) [.cells 3 (List.flatMap e3 r1.1), .cells 3 (List.flatMap e3 r1.2)] (PureSim.ren (hc := [ab 72 e72 p2]) (fun i => List.getD [(0, 0)] i (0, 0)) (C48 _ _ _ _ h2) (.ac (.nil _)) (.cons (Rn.agg' (.fl (.fl (.cons (Rn.any _ _ _ _ _ _ (Nat.le_of_ble_eq_true rfl) rfl rfl (by decide)) .nil)))) .nil) (Rn.tuple' (.cons (Rn.mk (i' := 2) (Nat.le_of_ble_eq_true rfl) rfl rfl) (.cons (Rn.mk (i' := 3) (Nat.le_of_ble_eq_true rfl) rfl rfl) .nil))) (newflat_cons (cellsL_flat (fun _ => rfl)) (newflat_cons (cellsL_flat (fun _ => rfl)) newflat_nil))) (TI.rn 5 [1, 4] [0, 1, 3] (st 47 [(1, pt 1 0), (4, mkV 3 r1.2.length)]) [ab 72 e72 p2, cl 28 [iv p0, iv p1, sv 0 p2.length ANY], .dead, .cells 3 (List.flatMap e3 r1.2)] (TI.dn (NX.sq (TS.sq (TS.sq (TS.rg ?_))))))))
  refine TI.ra 1 [1, 4, 5] (st 47 [(1, pt 1 0), (4, mkV 3 r1.2.length), (5, iv 0)]) (TI.dn (NX.sq (TS.bk 0 ?_)))
  have hX := of_do hF
  clear hF
  obtain ⟨r43, h44, hF⟩ := hX
  refine TS.lp (TL.weak (a2 := (st 47 [(1, pt 1 0), (4, mkV 2 r1.2.length), (5, iv 0)])) (h2 := (H50_1 p2 p0 p1 r1)) (Wk.an [1, 3] (.ac (.lt (.fl (.fl (.sl .nil))) (.cons (At.blk (by kernel_rfl) (RnB.list (fun _ => rfl))) (.nil _)))) [pt 1 0, mkV 3 r1.2.length, iv 0] (.pp (.cons (Rn.mk (Nat.le_of_ble_eq_true rfl) rfl (by simp only [List.length_set])) (.fl .nil)))) (TL.post (L50l0 p0 p1 p2 r1 0 r43 h44) ?_))
  rintro e a1 h1 hp
  rcases r43 with o45 | o46
  · skip
    obtain ⟨rfl, hw⟩ := hp
    refine ⟨(st 47 [(2, .bool false)]), [ab 72 e72 p2], (NX.bkR (NX.sqR ?_)), hw⟩
    have hF := Option.some.inj hF
    subst hF
    exact ⟨.inr rfl, rfl, .bool false, by kernel_rfl, WkV.flat0 (by kernel_rfl) (Nat.le_of_ble_eq_true rfl)⟩
  · skip
    obtain ⟨rfl, hw⟩ := hp
    refine ⟨(st 47 []), [ab 72 e72 p2], (NX.bkX (NX.sq (TS.sq (TS.rg (TI.ra 1 [2] (st 47 [(2, .bool true)]) (TI.dn (NX.sq (TS.rt ?_)))))))), hw⟩
    have hF := Option.some.inj hF
    subst hF
    exact ⟨.inr rfl, rfl, .bool true, by kernel_rfl, WkV.flat0 (by kernel_rfl) (Nat.le_of_ble_eq_true rfl)⟩
theorem C50 (p0 : Int) (p1 : Int) (p2 : (List (Int × Int))) (r : Bool) (hF : F50 p0 p1 p2 = some r) : PureSim Try.prog 50 [ag [iv p0, iv p1, sv 0 p2.length ANY]] [ab 72 e72 p2] (V50 1 r) (N50 1 r) :=
  PureSim.of_Fin Try.func50 (c := c50) (by kernel_rfl) (by kernel_rfl) 1 rfl [0] [0] (by kernel_rfl) (B50 p0 p1 p2 r hF)
noncomputable def c22 : Code := Try.f22.code
def H22_0 (p2 : (List (Int × Int))) (p0 : Int) (p1 : Int) : List Blk := [ab 72 e72 p2, cl 28 [iv p0, iv p1, sv 0 p2.length ANY]]
def F22 (p0 : Int) (p1 : Int) (p2 : (List (Int × Int))) : Option Int :=
  F24 p0 p1 p2 >>= fun r1 =>
  (
    if r1 == 0 then
      F50 p0 p1 p2 >>= fun r4 =>
      if r4 then
        some (false)
      else
        some (true)
    else
      some (false)
  : Option Bool) >>= fun m6 =>
  (
    if m6 then
      some 13
    else
      some r1
  : Option Int) >>= fun m9 =>
  some m9
def V22 (b : Nat) (r : Int) : Value := iv r
def N22 (b : Nat) (r : Int) : List Blk := []
theorem B22 (p0 : Int) (p1 : Int) (p2 : (List (Int × Int))) (r : Int) (hF : F22 p0 p1 p2 = some r) : TS Try.prog 1 1 c22 (st 14 [(0, ag [iv p0, iv p1, sv 0 p2.length ANY])]) [ab 72 e72 p2] (NX Try.prog 1 1 [] (FinP Try.prog Try.f22 1 (V22 1 r) (N22 1 r))) := by
  unfold F22 at hF
  refine TS.sq (TS.rg (TI.rn 2 [1] [0, 1] (st 14 [(1, pt 1 0)]) (H22_0 p2 p0 p1) (TI.dn (NX.sq (TS.sq ?_)))))
  have hX := of_do hF
  clear hF
  obtain ⟨r1, h2, hF⟩ := hX
  refine TS.rg (TI.ra 1 [1, 4] (st 14 [(1, pt 1 0), (4, ag [iv p0, iv p1, sv 0 p2.length ANY])]) (TI.cp 24 [ag [iv p0, iv p1, sv 0 p2.length ANY]] (iv r1) [] (PureSim.ren (hc := [ab 72 e72 p2]) (fun i => List.getD [(0, 0)] i (0, 0)) (C24 _ _ _ _ h2) (.ac (.nil _)) (.cons (Rn.agg' (.fl (.fl (.cons (Rn.any _ _ _ _ _ _ (Nat.le_of_ble_eq_true rfl) rfl rfl (by decide)) .nil)))) .nil) (.flat (by kernel_rfl)) newflat_nil) (TI.ra 1 [1, 3] (st 14 [(1, pt 1 0), (3, iv r1)]) (TI.dn (NX.sq (TS.sq (TS.sq ?_)))))))
  have hX := of_do hF
  clear hF
  obtain ⟨m6, hm11, hF⟩ := hX
  have hK : NX Try.prog 1 1 [.sq c22.s2.s2.s1.s2, .sq c22.s2.s2.s2] (FinP Try.prog Try.f22 1 (V22 1 r) (N22 1 r)) .normal (st 14 [(3, iv r1), (12, .bool m6)]) [ab 72 e72 p2, .dead] := by
    refine NX.sq ?_
    have hX := of_do hF
    clear hF
    obtain ⟨m9, hm10, hF⟩ := hX
    have hK : NX Try.prog 1 1 [.sq c22.s2.s2.s2] (FinP Try.prog Try.f22 1 (V22 1 r) (N22 1 r)) .normal (st 14 [(3, iv m9)]) [ab 72 e72 p2] := by
      refine NX.sq (TS.sq (TS.rg (TI.ra 2 [2] (st 14 [(2, iv m9)]) (TI.dn (NX.sq (TS.rt ?_))))))
      have hF := Option.some.inj hF
      subst hF
      exact ⟨.inr rfl, rfl, iv m9, by kernel_rfl, WkV.flat0 (by kernel_rfl) (Nat.le_of_ble_eq_true rfl)⟩
    clear hF
    have hF := hm10
    clear hm10
    refine TS.start ?_
    cases m6 with
    | true =>
      replace hF := of_pos hF rfl
      refine TS.cdT (.tmp 12) (TS.rg (TI.ra 1 [3] (st 14 [(3, iv 13)]) (TI.dn ?_)))
      have hF := Option.some.inj hF
      subst hF
      exact TS.weak (by exact (Wk.an [] (.ac (.nil _)) [iv 13] (.fl .nil))) hK
    | false =>
      replace hF := of_neg hF rfl
      refine TS.cdF (.tmp 12) (TS.sk ?_)
      have hF := Option.some.inj hF
      subst hF
      exact TS.weak (by exact (Wk.an [] (.ac (.nil _)) [iv r1] (.fl .nil))) hK
  rcases Bool.eq_false_or_eq_true (r1 == 0) with hc3 | hc3
  · replace hm11 := of_pos hm11 hc3
    have hX := of_do hm11
    clear hm11
    obtain ⟨r4, h5, hm11⟩ := hX
    cases r4 with
    | true =>
      replace hm11 := of_pos hm11 rfl
      have hm11 := Option.some.inj hm11
      subst hm11
      exact TS.rg (TI.ra 1 [1, 3, 6] (st 14 [(1, pt 1 0), (3, iv r1), (6, iv r1)]) (TI.o { val := .bool true } (q_conv (e := r1 == 0) (b := true) (by kernel_rfl) hc3) [1, 3, 7] [0, 1] (st 14 [(1, pt 1 0), (3, iv r1), (7, .bool true)]) (H22_0 p2 p0 p1) (TI.rn 2 [3, 8, 9] [0] (st 14 [(3, iv r1), (8, .bool true), (9, ag [iv p0, iv p1, sv 0 p2.length ANY])]) [ab 72 e72 p2, .dead] (TI.cp 50 [ag [iv p0, iv p1, sv 0 p2.length ANY]] (.bool true) [] (PureSim.ren (hc := [ab 72 e72 p2]) (fun i => List.getD [(0, 0)] i (0, 0)) (C50 _ _ _ _ h5) (.ac (.nil _)) (.cons (Rn.agg' (.fl (.fl (.cons (Rn.any _ _ _ _ _ _ (Nat.le_of_ble_eq_true rfl) rfl rfl (by decide)) .nil)))) .nil) (.flat (by kernel_rfl)) newflat_nil) (TI.ra 2 [3, 12] (st 14 [(3, iv r1), (12, .bool false)]) (TI.dn hK))))))
    | false =>
      replace hm11 := of_neg hm11 rfl
      have hm11 := Option.some.inj hm11
      subst hm11
      exact TS.rg (TI.ra 1 [1, 3, 6] (st 14 [(1, pt 1 0), (3, iv r1), (6, iv r1)]) (TI.o { val := .bool true } (q_conv (e := r1 == 0) (b := true) (by kernel_rfl) hc3) [1, 3, 7] [0, 1] (st 14 [(1, pt 1 0), (3, iv r1), (7, .bool true)]) (H22_0 p2 p0 p1) (TI.rn 2 [3, 8, 9] [0] (st 14 [(3, iv r1), (8, .bool true), (9, ag [iv p0, iv p1, sv 0 p2.length ANY])]) [ab 72 e72 p2, .dead] (TI.cp 50 [ag [iv p0, iv p1, sv 0 p2.length ANY]] (.bool false) [] (PureSim.ren (hc := [ab 72 e72 p2]) (fun i => List.getD [(0, 0)] i (0, 0)) (C50 _ _ _ _ h5) (.ac (.nil _)) (.cons (Rn.agg' (.fl (.fl (.cons (Rn.any _ _ _ _ _ _ (Nat.le_of_ble_eq_true rfl) rfl rfl (by decide)) .nil)))) .nil) (.flat (by kernel_rfl)) newflat_nil) (TI.ra 2 [3, 12] (st 14 [(3, iv r1), (12, .bool true)]) (TI.dn hK))))))
  · replace hm11 := of_neg hm11 hc3
    have hm11 := Option.some.inj hm11
    subst hm11
    exact TS.rg (TI.ra 1 [1, 3, 6] (st 14 [(1, pt 1 0), (3, iv r1), (6, iv r1)]) (TI.o { val := .bool false } (q_conv (e := r1 == 0) (b := false) (by kernel_rfl) hc3) [1, 3, 7] [0, 1] (st 14 [(1, pt 1 0), (3, iv r1), (7, .bool false)]) (H22_0 p2 p0 p1) (TI.rn 5 [3, 12] [0] (st 14 [(3, iv r1), (12, .bool false)]) [ab 72 e72 p2, .dead] (TI.dn hK))))
theorem C22 (p0 : Int) (p1 : Int) (p2 : (List (Int × Int))) (r : Int) (hF : F22 p0 p1 p2 = some r) : PureSim Try.prog 22 [ag [iv p0, iv p1, sv 0 p2.length ANY]] [ab 72 e72 p2] (V22 1 r) (N22 1 r) :=
  PureSim.of_Fin Try.func22 (c := c22) (by kernel_rfl) (by kernel_rfl) 1 rfl [0] [0] (by kernel_rfl) (B22 p0 p1 p2 r hF)
end
end Go.Proofs.Ytdekbjfjbbdjgaa
