/- What functions of the program compute, and that they do. -/
import Derived.Test.YtdekbjfjbbdjgaaGT
set_option linter.unusedVariables false
set_option linter.unusedSimpArgs false
set_option maxRecDepth 100000
set_option maxHeartbeats 4000000
namespace Go.Proofs.Ytdekbjfjbbdjgaa
open Go Go.Cl
noncomputable section
noncomputable def c8 : Code := Try.f8.code
def S8_0 (r138 : (List Int) × (List Int)) (p14 : Int) (r5 y295 : I2) (y295s : List I2) (r1 : (Int × Int × (List I2)) × (List Int) × (List Int)) (o290 o293 : Int) : CAct := (st 289 [(7, pt 2 0), (8, accV 4 r138.1.length), (9, accV 5 r138.2.length), (10, iv (w64 p14)), (13, iv r5.1), (25, pt 6 0), (245, .bool true), (246, pt 6 2), (247, sv 7 (List.length (y295 :: y295s)) UNK), (248, iv (w64 p14)), (249, accV 4 r138.1.length), (250, iv (w64 p14)), (251, pt 2 0), (252, iv r1.1.1), (253, iv (Int.tmod (w64 p14) r1.1.1)), (254, .pointer (some ⟨4, 0 + (Int.toNat (Int.tmod (w64 p14) r1.1.1)) * 1, none⟩)), (255, iv o290), (256, accV 5 r138.2.length), (257, iv (w64 p14)), (258, pt 2 1), (259, iv r1.1.2.1), (260, iv (Int.tmod (w64 p14) r1.1.2.1)), (261, .pointer (some ⟨5, 0 + (Int.toNat (Int.tmod (w64 p14) r1.1.2.1)) * 1, none⟩)), (262, iv o293), (263, iv (w64 (o290 + o293))), (264, ag [iv (w64 p14), iv (w64 (o290 + o293))]), (265, sv 8 1 1), (266, sv 9 (List.length ((y295 :: y295s) ++ [(w64 p14, w64 (o290 + o293))])) UNK), (267, pt 6 2)])
def S8_1 (r138 : (List Int) × (List Int)) (p14 : Int) (r5 : I2) (r1 : (Int × Int × (List I2)) × (List Int) × (List Int)) (o290 o293 : Int) : CAct := (st 289 [(7, pt 2 0), (8, accV 4 r138.1.length), (9, accV 5 r138.2.length), (10, iv (w64 p14)), (13, iv r5.1), (25, pt 6 0), (245, .bool true), (246, pt 6 2), (247, .slice none 0 0), (248, iv (w64 p14)), (249, accV 4 r138.1.length), (250, iv (w64 p14)), (251, pt 2 0), (252, iv r1.1.1), (253, iv (Int.tmod (w64 p14) r1.1.1)), (254, .pointer (some ⟨4, 0 + (Int.toNat (Int.tmod (w64 p14) r1.1.1)) * 1, none⟩)), (255, iv o290), (256, accV 5 r138.2.length), (257, iv (w64 p14)), (258, pt 2 1), (259, iv r1.1.2.1), (260, iv (Int.tmod (w64 p14) r1.1.2.1)), (261, .pointer (some ⟨5, 0 + (Int.toNat (Int.tmod (w64 p14) r1.1.2.1)) * 1, none⟩)), (262, iv o293), (263, iv (w64 (o290 + o293))), (264, ag [iv (w64 p14), iv (w64 (o290 + o293))]), (265, sv 8 1 1), (266, sv 9 (List.length [(w64 p14, w64 (o290 + o293))]) UNK), (267, pt 6 2)])
def S8_2 (r138 : (List Int) × (List Int)) (p14 : Int) (r5 y295 : I2) (y295s : List I2) (r1 : (Int × Int × (List I2)) × (List Int) × (List Int)) (o290 o293 : Int) : CAct := (st 289 [(7, pt 2 0), (8, accV 4 r138.1.length), (9, accV 5 r138.2.length), (10, iv (w64 p14)), (13, iv r5.1), (25, pt 6 0), (245, .bool true), (246, pt 6 2), (247, sv 7 (List.length (y295 :: y295s)) UNK), (248, iv (w64 p14)), (249, accV 4 r138.1.length), (250, iv (w64 p14)), (251, pt 2 0), (252, iv r1.1.1), (253, iv (Int.tmod (w64 p14) r1.1.1)), (254, .pointer (some ⟨4, 0 + (Int.toNat (Int.tmod (w64 p14) r1.1.1)) * 1, none⟩)), (255, iv o290), (256, accV 5 r138.2.length), (257, iv (w64 p14)), (258, pt 2 1), (259, iv r1.1.2.1), (260, iv (Int.tmod (w64 p14) r1.1.2.1)), (261, .pointer (some ⟨5, 0 + (Int.toNat (Int.tmod (w64 p14) r1.1.2.1)) * 1, none⟩)), (262, iv o293), (263, iv (w64 (o290 + o293))), (264, ag [iv (w64 p14), iv (w64 (o290 + o293))]), (265, sv 8 1 1)])
def S8_3 (r138 : (List Int) × (List Int)) (p14 : Int) (r5 : I2) (r1 : (Int × Int × (List I2)) × (List Int) × (List Int)) (o290 o293 : Int) : CAct := (st 289 [(7, pt 2 0), (8, accV 4 r138.1.length), (9, accV 5 r138.2.length), (10, iv (w64 p14)), (13, iv r5.1), (25, pt 6 0), (245, .bool true), (246, pt 6 2), (247, .slice none 0 0), (248, iv (w64 p14)), (249, accV 4 r138.1.length), (250, iv (w64 p14)), (251, pt 2 0), (252, iv r1.1.1), (253, iv (Int.tmod (w64 p14) r1.1.1)), (254, .pointer (some ⟨4, 0 + (Int.toNat (Int.tmod (w64 p14) r1.1.1)) * 1, none⟩)), (255, iv o290), (256, accV 5 r138.2.length), (257, iv (w64 p14)), (258, pt 2 1), (259, iv r1.1.2.1), (260, iv (Int.tmod (w64 p14) r1.1.2.1)), (261, .pointer (some ⟨5, 0 + (Int.toNat (Int.tmod (w64 p14) r1.1.2.1)) * 1, none⟩)), (262, iv o293), (263, iv (w64 (o290 + o293))), (264, ag [iv (w64 p14), iv (w64 (o290 + o293))]), (265, sv 8 1 1)])
def S8_4 (p15 : Int) (r1 : (Int × Int × (List I2)) × (List Int) × (List Int)) (p14 : Int) (r3 r5 : I2) (r7 : List Int) (o41 o45 o50 o53 : Int) : CAct := (st 289 [(2, .int .u8 p15), (7, pt 2 0), (8, accV 4 r1.2.1.length), (9, accV 5 r1.2.2.length), (10, iv (w64 p14)), (11, iv r3.1), (12, iv r3.2), (13, iv r5.1), (15, mkV 6 r7.length), (19, iv o41), (95, .bool (o41 == o45)), (96, iv r3.2), (97, .bool true), (98, .bool true), (99, iv r3.1), (100, accV 4 r1.2.1.length), (101, iv (w64 p14)), (102, pt 2 0), (103, iv r1.1.1), (104, iv (Int.tmod (w64 p14) r1.1.1)), (105, .pointer (some ⟨4, 0 + (Int.toNat (Int.tmod (w64 p14) r1.1.1)) * 1, none⟩)), (106, iv o50), (107, accV 5 r1.2.2.length), (108, iv (w64 p14)), (109, pt 2 1), (110, iv r1.1.2.1), (111, iv (Int.tmod (w64 p14) r1.1.2.1)), (112, .pointer (some ⟨5, 0 + (Int.toNat (Int.tmod (w64 p14) r1.1.2.1)) * 1, none⟩)), (113, iv o53), (114, iv (w64 (o50 + o53)))])
def S8_5 (p15 : Int) (r1 : (Int × Int × (List I2)) × (List Int) × (List Int)) (p14 : Int) (r3 r5 : I2) (r7 : List Int) (o41 o45 o50 : Int) : CAct := (st 289 [(2, .int .u8 p15), (7, pt 2 0), (8, accV 4 r1.2.1.length), (9, accV 5 r1.2.2.length), (10, iv (w64 p14)), (11, iv r3.1), (12, iv r3.2), (13, iv r5.1), (15, mkV 6 r7.length), (19, iv o41), (95, .bool (o41 == o45)), (96, iv r3.2), (97, .bool true), (98, .bool true), (99, iv r3.1), (100, accV 4 r1.2.1.length), (101, iv (w64 p14)), (102, pt 2 0), (103, iv r1.1.1), (104, iv (Int.tmod (w64 p14) r1.1.1)), (105, .pointer (some ⟨4, 0 + (Int.toNat (Int.tmod (w64 p14) r1.1.1)) * 1, none⟩)), (106, iv o50), (107, accV 5 r1.2.2.length), (108, iv (w64 p14)), (109, pt 2 1), (110, iv r1.1.2.1)])
def H8_6 (p2 p13 : List Int) (r1 : (Int × Int × (List I2)) × (List Int) × (List Int)) (r138 : (List Int) × (List Int)) (y295 : I2) (y295s : List I2) (p14 o290 o293 : Int) : List Blk := [ab 5 e5 p2, ab 5 e5 p13, cl 24 [iv r1.1.1, iv r1.1.2.1, accV 3 r1.1.2.2.length], ab 57 e57 r1.1.2.2, ab 3 e3 r138.1, ab 3 e3 r138.2, cl 24 [iv r1.1.1, iv r1.1.2.1, sv 9 (List.length ((y295 :: y295s) ++ [(w64 p14, w64 (o290 + o293))])) UNK], .dead, cl 57 [iv (w64 p14), iv (w64 (o290 + o293))], .cells 57 (List.flatMap e57 ((y295 :: y295s) ++ [(w64 p14, w64 (o290 + o293))]))]
def H8_7 (p2 p13 : List Int) (r1 : (Int × Int × (List I2)) × (List Int) × (List Int)) (r138 : (List Int) × (List Int)) (p14 o290 o293 : Int) : List Blk := [ab 5 e5 p2, ab 5 e5 p13, cl 24 [iv r1.1.1, iv r1.1.2.1, accV 3 r1.1.2.2.length], ab 57 e57 r1.1.2.2, ab 3 e3 r138.1, ab 3 e3 r138.2, cl 24 [iv r1.1.1, iv r1.1.2.1, sv 9 (List.length [(w64 p14, w64 (o290 + o293))]) UNK], .dead, cl 57 [iv (w64 p14), iv (w64 (o290 + o293))], .cells 57 (List.flatMap e57 ([(w64 p14, w64 (o290 + o293))]))]
def H8_8 (p2 p13 : List Int) (r1 : (Int × Int × (List I2)) × (List Int) × (List Int)) (r138 : (List Int) × (List Int)) (y258 : I2) (y258s : List I2) (o227 : I2) (p14 o252 o256 : Int) : List Blk := [ab 5 e5 p2, ab 5 e5 p13, cl 24 [iv r1.1.1, iv r1.1.2.1, accV 3 r1.1.2.2.length], ab 57 e57 r1.1.2.2, ab 3 e3 r138.1, ab 3 e3 r138.2, cl 24 [iv r1.1.1, iv r1.1.2.1, sv 7 (List.length (y258 :: y258s)) UNK], .cells 57 (List.flatMap e57 (y258 :: y258s)), cl 57 [iv o227.1, iv o227.2], cl 57 [iv (w64 p14), iv (w64 (o252 + o256))]]
def H8_9 (p2 p13 : List Int) (r1 : (Int × Int × (List I2)) × (List Int) × (List Int)) (r138 : (List Int) × (List Int)) (y295 : I2) (y295s : List I2) (p14 o290 o293 : Int) : List Blk := [ab 5 e5 p2, ab 5 e5 p13, cl 24 [iv r1.1.1, iv r1.1.2.1, accV 3 r1.1.2.2.length], ab 57 e57 r1.1.2.2, ab 3 e3 r138.1, ab 3 e3 r138.2, cl 24 [iv r1.1.1, iv r1.1.2.1, sv 7 (List.length (y295 :: y295s)) UNK], .cells 57 (List.flatMap e57 (y295 :: y295s)), cl 57 [iv (w64 p14), iv (w64 (o290 + o293))]]
def H8_10 (p2 p13 : List Int) (r1 : (Int × Int × (List I2)) × (List Int) × (List Int)) (r138 : (List Int) × (List Int)) (y258 : I2) (y258s : List I2) (o227 : I2) : List Blk := [ab 5 e5 p2, ab 5 e5 p13, cl 24 [iv r1.1.1, iv r1.1.2.1, accV 3 r1.1.2.2.length], ab 57 e57 r1.1.2.2, ab 3 e3 r138.1, ab 3 e3 r138.2, cl 24 [iv r1.1.1, iv r1.1.2.1, sv 7 (List.length (y258 :: y258s)) UNK], .cells 57 (List.flatMap e57 (y258 :: y258s)), cl 57 [iv o227.1, iv o227.2]]
def H8_11 (p2 p13 : List Int) (r1 : (Int × Int × (List I2)) × (List Int) × (List Int)) (r138 : (List Int) × (List Int)) (v201 : List I2) (o227 : I2) : List Blk := [ab 5 e5 p2, ab 5 e5 p13, cl 24 [iv r1.1.1, iv r1.1.2.1, accV 3 r1.1.2.2.length], ab 57 e57 r1.1.2.2, ab 3 e3 r138.1, ab 3 e3 r138.2, cl 24 [iv r1.1.1, iv r1.1.2.1, accV 7 v201.length], ab 57 e57 v201, cl 57 [iv o227.1, iv o227.2]]
def H8_12 (p2 p13 : List Int) (r1 : (Int × Int × (List I2)) × (List Int) × (List Int)) (r138 : (List Int) × (List Int)) (y295 : I2) (y295s : List I2) : List Blk := [ab 5 e5 p2, ab 5 e5 p13, cl 24 [iv r1.1.1, iv r1.1.2.1, accV 3 r1.1.2.2.length], ab 57 e57 r1.1.2.2, ab 3 e3 r138.1, ab 3 e3 r138.2, cl 24 [iv r1.1.1, iv r1.1.2.1, sv 7 (List.length (y295 :: y295s)) UNK], .cells 57 (List.flatMap e57 (y295 :: y295s))]
def H8_13 (p2 p13 : List Int) (r1 : (Int × Int × (List I2)) × (List Int) × (List Int)) (r138 : (List Int) × (List Int)) (o227 : I2) (p14 o252 o256 : Int) : List Blk := [ab 5 e5 p2, ab 5 e5 p13, cl 24 [iv r1.1.1, iv r1.1.2.1, accV 3 r1.1.2.2.length], ab 57 e57 r1.1.2.2, ab 3 e3 r138.1, ab 3 e3 r138.2, cl 24 [iv r1.1.1, iv r1.1.2.1, .slice none 0 0], .dead, cl 57 [iv o227.1, iv o227.2], cl 57 [iv (w64 p14), iv (w64 (o252 + o256))]]
def H8_14 (p2 p13 : List Int) (r1 : (Int × Int × (List I2)) × (List Int) × (List Int)) (r138 : (List Int) × (List Int)) (r262 : Bool × (List I2)) : List Blk := [ab 5 e5 p2, ab 5 e5 p13, cl 24 [iv r1.1.1, iv r1.1.2.1, accV 3 r1.1.2.2.length], ab 57 e57 r1.1.2.2, ab 3 e3 r138.1, ab 3 e3 r138.2, cl 24 [iv r1.1.1, iv r1.1.2.1, accV 7 r262.2.length], ab 57 e57 r262.2]
def H8_15 (p2 p13 : List Int) (r1 : (Int × Int × (List I2)) × (List Int) × (List Int)) (r138 : (List Int) × (List Int)) (v201 : List I2) : List Blk := [ab 5 e5 p2, ab 5 e5 p13, cl 24 [iv r1.1.1, iv r1.1.2.1, accV 3 r1.1.2.2.length], ab 57 e57 r1.1.2.2, ab 3 e3 r138.1, ab 3 e3 r138.2, cl 24 [iv r1.1.1, iv r1.1.2.1, accV 7 v201.length], ab 57 e57 v201]
def H8_16 (p2 p13 : List Int) (r1 : (Int × Int × (List I2)) × (List Int) × (List Int)) (r138 : (List Int) × (List Int)) (p14 o290 o293 : Int) : List Blk := [ab 5 e5 p2, ab 5 e5 p13, cl 24 [iv r1.1.1, iv r1.1.2.1, accV 3 r1.1.2.2.length], ab 57 e57 r1.1.2.2, ab 3 e3 r138.1, ab 3 e3 r138.2, cl 24 [iv r1.1.1, iv r1.1.2.1, .slice none 0 0], .dead, cl 57 [iv (w64 p14), iv (w64 (o290 + o293))]]
def H8_17 (p2 p13 : List Int) (r1 : (Int × Int × (List I2)) × (List Int) × (List Int)) (r138 : (List Int) × (List Int)) (o227 : I2) : List Blk := [ab 5 e5 p2, ab 5 e5 p13, cl 24 [iv r1.1.1, iv r1.1.2.1, accV 3 r1.1.2.2.length], ab 57 e57 r1.1.2.2, ab 3 e3 r138.1, ab 3 e3 r138.2, cl 24 [iv r1.1.1, iv r1.1.2.1, .slice none 0 0], .dead, cl 57 [iv o227.1, iv o227.2]]
def S8_18 (p15 : Int) (r1 : (Int × Int × (List I2)) × (List Int) × (List Int)) (p14 : Int) (r3 r5 : I2) (r7 : List Int) (o41 o45 : Int) : CAct := (st 289 [(2, .int .u8 p15), (7, pt 2 0), (8, accV 4 r1.2.1.length), (9, accV 5 r1.2.2.length), (10, iv (w64 p14)), (11, iv r3.1), (12, iv r3.2), (13, iv r5.1), (15, mkV 6 r7.length), (19, iv o41), (95, .bool (o41 == o45)), (96, iv r3.2), (97, .bool true), (98, .bool true), (99, iv r3.1), (100, accV 4 r1.2.1.length), (101, iv (w64 p14)), (102, pt 2 0), (103, iv r1.1.1)])
def H8_19 (p2 p13 : List Int) (r1 : (Int × Int × (List I2)) × (List Int) × (List Int)) (r138 : (List Int) × (List Int)) : List Blk := [ab 5 e5 p2, ab 5 e5 p13, cl 24 [iv r1.1.1, iv r1.1.2.1, accV 3 r1.1.2.2.length], ab 57 e57 r1.1.2.2, ab 3 e3 r138.1, ab 3 e3 r138.2, cl 24 [iv r1.1.1, iv r1.1.2.1, .slice none 0 0], .dead]
def H8_20 (p2 p13 : List Int) (r1 : (Int × Int × (List I2)) × (List Int) × (List Int)) (r7 : List Int) : List Blk := [ab 5 e5 p2, ab 5 e5 p13, cl 24 [iv r1.1.1, iv r1.1.2.1, accV 3 r1.1.2.2.length], ab 57 e57 r1.1.2.2, ab 3 e3 r1.2.1, ab 3 e3 r1.2.2, .cells 3 (List.flatMap e3 r7)]
def H8_21 (p2 p13 : List Int) (r1 : (Int × Int × (List I2)) × (List Int) × (List Int)) (r138 : (List Int) × (List Int)) (o169 : I2) : List Blk := [ab 5 e5 p2, ab 5 e5 p13, cl 24 [iv r1.1.1, iv r1.1.2.1, accV 3 r1.1.2.2.length], ab 57 e57 r1.1.2.2, ab 3 e3 r138.1, ab 3 e3 r138.2, cl 57 [iv o169.1, iv o169.2]]
def H8_22 (p2 p13 : List Int) (r1 : (Int × Int × (List I2)) × (List Int) × (List Int)) (m120 m128 r7 : List Int) : List Blk := [ab 5 e5 p2, ab 5 e5 p13, cl 24 [iv r1.1.1, iv r1.1.2.1, accV 3 r1.1.2.2.length], ab 57 e57 r1.1.2.2, ab 3 e3 m120, ab 3 e3 m128, .cells 3 (List.flatMap e3 r7)]
def H8_23 (p2 p13 : List Int) (r1 : (Int × Int × (List I2)) × (List Int) × (List Int)) (m120 v84 r7 : List Int) : List Blk := [ab 5 e5 p2, ab 5 e5 p13, cl 24 [iv r1.1.1, iv r1.1.2.1, accV 3 r1.1.2.2.length], ab 57 e57 r1.1.2.2, ab 3 e3 m120, ab 3 e3 v84, .cells 3 (List.flatMap e3 r7)]
def H8_24 (p2 p13 : List Int) (r1 : (Int × Int × (List I2)) × (List Int) × (List Int)) (v83 v84 r7 : List Int) : List Blk := [ab 5 e5 p2, ab 5 e5 p13, cl 24 [iv r1.1.1, iv r1.1.2.1, accV 3 r1.1.2.2.length], ab 57 e57 r1.1.2.2, ab 3 e3 v83, ab 3 e3 v84, .cells 3 (List.flatMap e3 r7)]
def H8_25 (p2 p13 : List Int) (r1 : (Int × Int × (List I2)) × (List Int) × (List Int)) (r138 : (List Int) × (List Int)) : List Blk := [ab 5 e5 p2, ab 5 e5 p13, cl 24 [iv r1.1.1, iv r1.1.2.1, accV 3 r1.1.2.2.length], ab 57 e57 r1.1.2.2, ab 3 e3 r138.1, ab 3 e3 r138.2]
def S8_26 (p15 : Int) (r1 : (Int × Int × (List I2)) × (List Int) × (List Int)) (p14 : Int) (r3 r5 : I2) (r7 : List Int) (m29 v15 : Int) : CAct := (st 289 [(2, .int .u8 p15), (7, pt 2 0), (8, accV 4 r1.2.1.length), (9, accV 5 r1.2.2.length), (10, iv (w64 p14)), (11, iv r3.1), (12, iv r3.2), (13, iv r5.1), (14, iv r5.2), (15, mkV 6 r7.length), (16, iv m29), (51, mkV 6 r7.length), (52, iv (r7.length : Int)), (53, iv (w64 (v15 + 1)))])
def S8_27 (p15 : Int) (r1 : (Int × Int × (List I2)) × (List Int) × (List Int)) (p14 : Int) (r3 r5 : I2) (r7 : List Int) (v14 v15 : Int) : CAct := (st 289 [(2, .int .u8 p15), (7, pt 2 0), (8, accV 4 r1.2.1.length), (9, accV 5 r1.2.2.length), (10, iv (w64 p14)), (11, iv r3.1), (12, iv r3.2), (13, iv r5.1), (14, iv r5.2), (15, mkV 6 r7.length), (16, iv v14), (51, mkV 6 r7.length), (52, iv (r7.length : Int)), (53, iv v15)])
def S8_28 (p15 : Int) (v83 v84 : List Int) (p14 : Int) (r5 : I2) (o41 v85 o112 : Int) (r7 : List Int) : CAct := (st 289 [(2, .int .u8 p15), (7, pt 2 0), (8, accV 4 v83.length), (9, accV 5 v84.length), (10, iv (w64 p14)), (13, iv r5.1), (19, iv o41), (21, iv v85), (22, iv o112), (122, mkV 6 r7.length), (123, iv (r7.length : Int)), (124, iv v85), (129, iv o112), (130, iv o41)])
def S8_29 (r138 : (List Int) × (List Int)) (p14 : Int) (r5 : I2) (r1 : (Int × Int × (List I2)) × (List Int) × (List Int)) (v200 : Int) : CAct := (st 289 [(7, pt 2 0), (8, accV 4 r138.1.length), (9, accV 5 r138.2.length), (10, iv (w64 p14)), (13, iv r5.1), (25, pt 6 0), (26, .bool true), (28, pt 8 0), (201, accV 3 r1.1.2.2.length), (202, iv (r1.1.2.2.length : Int)), (203, iv v200)])
def S8_30 (p15 : Int) (r1 : (Int × Int × (List I2)) × (List Int) × (List Int)) (p14 : Int) (r3 r5 : I2) (r7 : List Int) (o41 o45 : Int) : CAct := (st 289 [(2, .int .u8 p15), (7, pt 2 0), (8, accV 4 r1.2.1.length), (9, accV 5 r1.2.2.length), (10, iv (w64 p14)), (11, iv r3.1), (12, iv r3.2), (13, iv r5.1), (15, mkV 6 r7.length), (19, iv o41), (95, .bool (o41 == o45)), (96, iv r3.2)])
def S8_31 (r138 : (List Int) × (List Int)) (p14 : Int) (r5 : I2) (r1 : (Int × Int × (List I2)) × (List Int) × (List Int)) : CAct := (st 289 [(7, pt 2 0), (8, accV 4 r138.1.length), (9, accV 5 r138.2.length), (10, iv (w64 p14)), (13, iv r5.1), (25, pt 6 0), (26, .bool false), (201, accV 3 r1.1.2.2.length), (202, iv (r1.1.2.2.length : Int)), (203, iv 0)])
def S8_32 (p15 : Int) (r1 : (Int × Int × (List I2)) × (List Int) × (List Int)) (p14 : Int) (r3 r5 : I2) (r7 : List Int) (r32 : Int) : CAct := (st 289 [(2, .int .u8 p15), (7, pt 2 0), (8, accV 4 r1.2.1.length), (9, accV 5 r1.2.2.length), (10, iv (w64 p14)), (11, iv r3.1), (12, iv r3.2), (13, iv r5.1), (15, mkV 6 r7.length), (16, iv r32), (64, iv r5.2)])
def H8_33 (p2 p13 : List Int) (r1 : (Int × Int × (List I2)) × (List Int) × (List Int)) (m276 : List I2) : List Blk := [ab 5 e5 p2, ab 5 e5 p13, cl 24 [iv r1.1.1, iv r1.1.2.1, accV 3 m276.length], ab 57 e57 m276]
def H8_34 (p2 p13 : List Int) : List Blk := [ab 5 e5 p2, ab 5 e5 p13, .dead, .dead, .dead, .dead, .dead]
def S8_35 (r138 : (List Int) × (List Int)) (p14 : Int) (r5 : I2) : CAct := (st 289 [(7, pt 2 0), (8, accV 4 r138.1.length), (9, accV 5 r138.2.length), (10, iv (w64 p14)), (13, iv r5.1)])
def H8_36 (p2 p13 : List Int) : List Blk := [ab 5 e5 p2, ab 5 e5 p13, .dead, .dead]
def H8_37 (p2 p13 : List Int) : List Blk := [ab 5 e5 p2, ab 5 e5 p13]
def S8_38 (r278 r5 : I2) : CAct := (st 289 [(25, pt 2 0), (275, .bool true), (276, iv r278.1), (278, iv (w64 (r5.1 - 1)))])
def S8_39 (r5 r278 : I2) : CAct := (st 289 [(13, iv r5.1), (25, pt 2 0), (29, iv r278.1), (274, .bool true)])
def S8_40 (r5 r278 : I2) : CAct := (st 289 [(13, iv r5.1), (25, pt 2 0), (29, iv r278.1), (273, iv r278.2)])
def H8_41 (r1 : (Int × Int × (List I2)) × (List Int) × (List Int)) : List Blk := [ab 57 e57 r1.1.2.2]
def F8l0 (p2 p13 : List Int) (p14 p15 : Int) (r1 : (Int × Int × (List I2)) × (List Int) × (List Int)) (r3 r5 : I2) (r7 : List Int) (v14 v15 : Int) : Option Int :=
 if decide (v15 < (r7.length : Int)) then
  if (0 : Int) ≤ v15 ∧ v15 < (r7.length : Int) then
   some (List.getD r7 (Int.toNat v15) 0) >>= fun o24 =>
   (
    if v15 == o24 then
     some (w64 (v14 + 1))
    else
     some v14
   : Option Int) >>= fun m29 =>
   F8l0 p2 p13 p14 p15 r1 r3 r5 r7 m29 (w64 (v15 + 1))
  else none
 else
  some v14
 partial_fixpoint
def F8l1 (p2 p13 : List Int) (p14 p15 o41 : Int) (r1 : (Int × Int × (List I2)) × (List Int) × (List Int)) (r5 : I2) (r7 : List Int) (v85 : Int) (v83 v84 : List Int) : Option ((List Int) × (List Int)) :=
 if decide (v85 < (r7.length : Int)) then
  if (0 : Int) ≤ v85 ∧ v85 < (r7.length : Int) then
   some (List.getD r7 (Int.toNat v85) 0) >>= fun o112 =>
   (
    if o112 == o41 then
     some (decide (v85 < r1.1.1))
    else
     some (false)
   : Option Bool) >>= fun m115 =>
   (
    if m115 then
     if (0 : Int) ≤ v85 ∧ v85 < (v83.length : Int) then
      some (List.getD v83 (Int.toNat v85) 0) >>= fun o135 =>
      some (List.set v83 (Int.toNat v85) (w64 (o135 + (w64 p15))))
     else none
    else
     some v83
   : Option (List Int)) >>= fun m120 =>
   (
    if o112 == o41 then
     some (decide (v85 ≥ r1.1.1))
    else
     some (false)
   : Option Bool) >>= fun m123 =>
   (
    if m123 then
     if (0 : Int) ≤ w64 (v85 - r1.1.1) ∧ w64 (v85 - r1.1.1) < (v84.length : Int) then
      some (List.getD v84 (Int.toNat (w64 (v85 - r1.1.1))) 0) >>= fun o131 =>
      some (List.set v84 (Int.toNat (w64 (v85 - r1.1.1))) (w64 (o131 - (w64 p15))))
     else none
    else
     some v84
   : Option (List Int)) >>= fun m128 =>
   F8l1 p2 p13 p14 p15 o41 r1 r5 r7 (w64 (v85 + 1)) m120 m128
  else none
 else
  some (v83, v84)
 partial_fixpoint
def F8l2 (p2 p13 : List Int) (p14 : Int) (r1 : (Int × Int × (List I2)) × (List Int) × (List Int)) (r5 : I2) (r138 : (List Int) × (List Int)) (v153 : Int) : Option (Unit ⊕ Unit) :=
 if decide (v153 < (r1.1.2.2.length : Int)) then
  if (0 : Int) ≤ v153 ∧ v153 < (r1.1.2.2.length : Int) then
   some (List.getD r1.1.2.2 (Int.toNat v153) (0, 0)) >>= fun o169 =>
   if r1.1.1 = 0 then none else
   if (0 : Int) ≤ Int.tmod o169.1 r1.1.1 ∧ Int.tmod o169.1 r1.1.1 < (r138.1.length : Int) then
    some (List.getD r138.1 (Int.toNat (Int.tmod o169.1 r1.1.1)) 0) >>= fun o173 =>
    if r1.1.2.1 = 0 then none else
    if (0 : Int) ≤ Int.tmod o169.1 r1.1.2.1 ∧ Int.tmod o169.1 r1.1.2.1 < (r138.2.length : Int) then
     some (List.getD r138.2 (Int.toNat (Int.tmod o169.1 r1.1.2.1)) 0) >>= fun o177 =>
     if (w64 (o173 + o177)) != o169.2 then
      some (.inl ())
     else
      F8l2 p2 p13 p14 r1 r5 r138 (w64 (v153 + 1))
    else none
   else none
  else none
 else
  some (.inr ())
 partial_fixpoint
def F8l3 (p2 p13 : List Int) (p14 : Int) (r1 : (Int × Int × (List I2)) × (List Int) × (List Int)) (r5 : I2) (r138 : (List Int) × (List Int)) (v199 : Bool) (v200 : Int) (v201 : List I2) : Option (Bool × (List I2)) :=
 if decide (v200 < (r1.1.2.2.length : Int)) then
  if (0 : Int) ≤ v200 ∧ v200 < (r1.1.2.2.length : Int) then
   some (List.getD r1.1.2.2 (Int.toNat v200) (0, 0)) >>= fun o227 =>
   (
    if v199 then
     some (true, false)
    else
     some (false, decide (o227.1 > (w64 p14)))
   : Option (Bool × Bool)) >>= fun m229 =>
   (
    if m229.2 then
     if r1.1.1 = 0 then none else
     if (0 : Int) ≤ Int.tmod (w64 p14) r1.1.1 ∧ Int.tmod (w64 p14) r1.1.1 < (r138.1.length : Int) then
      some (List.getD r138.1 (Int.toNat (Int.tmod (w64 p14) r1.1.1)) 0) >>= fun o252 =>
      if r1.1.2.1 = 0 then none else
      if (0 : Int) ≤ Int.tmod (w64 p14) r1.1.2.1 ∧ Int.tmod (w64 p14) r1.1.2.1 < (r138.2.length : Int) then
       some (List.getD r138.2 (Int.toNat (Int.tmod (w64 p14) r1.1.2.1)) 0) >>= fun o256 =>
       if List.length v201 ≤ 1000000000 then
        some (true, v201 ++ [(w64 p14, w64 (o252 + o256))])
       else none
      else none
     else none
    else
     some (m229.1, v201)
   : Option (Bool × (List I2))) >>= fun m246 =>
   if List.length m246.2 ≤ 1000000000 then
    F8l3 p2 p13 p14 r1 r5 r138 m246.1 (w64 (v200 + 1)) (m246.2 ++ [(o227.1, o227.2)])
   else none
  else none
 else
  some (v199, v201)
 partial_fixpoint
def F8 (p0 p1 : Int) (p2 : List Int) (p3 p4 p5 p6 p7 p8 p9 p10 p11 p12 : Int) (p13 : List Int) (p14 p15 : Int) : Option Bool :=
 F36 p0 p1 p2 p3 p4 p5 p6 p7 p8 p9 p10 p11 p12 p13 >>= fun r1 =>
 F37 r1.1.1 r1.1.2.1 r1.1.2.2 (w64 p14) >>= fun r3 =>
 F18 r1.1.1 r1.1.2.1 r1.1.2.2 >>= fun r5 =>
 F35 r1.1.1 r1.1.2.1 r1.1.2.2 >>= fun r7 =>
 F8l0 p2 p13 p14 p15 r1 r3 r5 r7 0 0 >>= fun r32 =>
 (
  if r5.2 != 0 then
   some (true)
  else
   if r5.1 != r32 then
    some (true)
   else
    F21 r1.1.1 r1.1.2.1 r1.1.2.2 >>= fun r36 =>
    some (r36 != 0)
 : Option Bool) >>= fun m38 =>
 if m38 then
  some false
 else
  if r1.1.1 = 0 then none else
  if (0 : Int) ≤ Int.tmod (w64 p14) r1.1.1 ∧ Int.tmod (w64 p14) r1.1.1 < (r7.length : Int) then
   some (List.getD r7 (Int.toNat (Int.tmod (w64 p14) r1.1.1)) 0) >>= fun o41 =>
   if r1.1.2.1 = 0 then none else
   if (0 : Int) ≤ w64 (r1.1.1 + (Int.tmod (w64 p14) r1.1.2.1)) ∧ w64 (r1.1.1 + (Int.tmod (w64 p14) r1.1.2.1)) < (r7.length : Int) then
    some (List.getD r7 (Int.toNat (w64 (r1.1.1 + (Int.tmod (w64 p14) r1.1.2.1)))) 0) >>= fun o45 =>
    if o41 == o45 then
     (
      if r3.2 == 0 then
       if (0 : Int) ≤ Int.tmod (w64 p14) r1.1.1 ∧ Int.tmod (w64 p14) r1.1.1 < (r1.2.1.length : Int) then
        some (List.getD r1.2.1 (Int.toNat (Int.tmod (w64 p14) r1.1.1)) 0) >>= fun o50 =>
        if (0 : Int) ≤ Int.tmod (w64 p14) r1.1.2.1 ∧ Int.tmod (w64 p14) r1.1.2.1 < (r1.2.2.length : Int) then
         some (List.getD r1.2.2 (Int.toNat (Int.tmod (w64 p14) r1.1.2.1)) 0) >>= fun o53 =>
         if r3.1 == (w64 (o50 + o53)) then
          F14 >>= fun r56 =>
          some (r56)
         else
          some (false)
        else none
       else none
      else
       some (false)
     : Option Bool) >>= fun m58 =>
     some m58
    else
     if r3.2 != 14 then
      some false
     else
      F8l1 p2 p13 p14 p15 o41 r1 r5 r7 0 r1.2.1 r1.2.2 >>= fun r138 =>
      F8l2 p2 p13 p14 r1 r5 r138 0 >>= fun r180 =>
      match r180 with
      | .inl o182 =>
       some false
      | .inr o183 =>
       F8l3 p2 p13 p14 r1 r5 r138 false 0 ([]) >>= fun r262 =>
       (
        if r262.1 then
         some (false)
        else
         some (true)
       : Option Bool) >>= fun m265 =>
       (
        if m265 then
         if (0 : Int) ≤ Int.tmod (w64 p14) r1.1.1 ∧ Int.tmod (w64 p14) r1.1.1 < (r138.1.length : Int) then
          some (List.getD r138.1 (Int.toNat (Int.tmod (w64 p14) r1.1.1)) 0) >>= fun o290 =>
          if (0 : Int) ≤ Int.tmod (w64 p14) r1.1.2.1 ∧ Int.tmod (w64 p14) r1.1.2.1 < (r138.2.length : Int) then
           some (List.getD r138.2 (Int.toNat (Int.tmod (w64 p14) r1.1.2.1)) 0) >>= fun o293 =>
           if List.length r262.2 ≤ 1000000000 then
            some (r262.2 ++ [(w64 p14, w64 (o290 + o293))])
           else none
          else none
         else none
        else
         some r262.2
       : Option (List I2)) >>= fun m276 =>
       F18 r1.1.1 r1.1.2.1 m276 >>= fun r278 =>
       (
        if r278.2 == 0 then
         if r278.1 == (w64 (r5.1 - 1)) then
          F21 r1.1.1 r1.1.2.1 m276 >>= fun r282 =>
          if r282 == 0 then
           F14 >>= fun r285 =>
           some (r285)
          else
           some (false)
         else
          some (false)
        else
         some (false)
       : Option Bool) >>= fun m287 =>
       some m287
   else none
  else none
def V8 (b : Nat) (r : Bool) : Value := .bool r
def N8 (b : Nat) (r : Bool) : List Blk := []
def P8l0 (p2 p13 : List Int) (p14 p15 : Int) (r1 : (Int × Int × (List I2)) × (List Int) × (List Int)) (r3 r5 : I2) (r7 : List Int) (r : Int) : Post := fun e a h => e = .exit 0 ∧ Wk Try.prog 2 2 a h (st 289 [(2, .int .u8 p15), (7, pt 2 0), (8, accV 4 r1.2.1.length), (9, accV 5 r1.2.2.length), (10, iv (w64 p14)), (11, iv r3.1), (12, iv r3.2), (13, iv r5.1), (14, iv r5.2), (15, mkV 6 r7.length), (16, iv r)]) (H8_20 p2 p13 r1 r7)
theorem L8l0 (p2 p13 : List Int) (p14 p15 : Int) (r1 : (Int × Int × (List I2)) × (List Int) × (List Int)) (r3 r5 : I2) (r7 : List Int) (v14 v15 r : Int) (hF : F8l0 p2 p13 p14 p15 r1 r3 r5 r7 v14 v15 = some r) : TL Try.prog 2 2 c8.s2.s2.s2.s2.s2.s2.s2.s1.s2.bd.bd (S8_27 p15 r1 p14 r3 r5 r7 v14 v15) (H8_20 p2 p13 r1 r7) (P8l0 p2 p13 p14 p15 r1 r3 r5 r7 r) := by
 refine F8l0.partial_correctness p2 p13 p14 p15 r1 r3 r5 r7 (motive := fun v14 v15 r => TL Try.prog 2 2 c8.s2.s2.s2.s2.s2.s2.s2.s1.s2.bd.bd (S8_27 p15 r1 p14 r3 r5 r7 v14 v15) (H8_20 p2 p13 r1 r7) (P8l0 p2 p13 p14 p15 r1 r3 r5 r7 r)) ?_ v14 v15 r hF
 clear hF r v14 v15
 intro again ih v14 v15 r hF
 refine TL.round (TS.sq (TS.rg (TI.ra 1 [2, 7, 8, 9, 10, 11, 12, 13, 14, 15, 16, 51, 52, 53, 54] (st 289 [(2, .int .u8 p15), (7, pt 2 0), (8, accV 4 r1.2.1.length), (9, accV 5 r1.2.2.length), (10, iv (w64 p14)), (11, iv r3.1), (12, iv r3.2), (13, iv r5.1), (14, iv r5.2), (15, mkV 6 r7.length), (16, iv v14), (51, mkV 6 r7.length), (52, iv (r7.length : Int)), (53, iv v15), (54, .bool (decide (v15 < (r7.length : Int))))]) (TI.dn (NX.sq (TS.sq ?_))))))
 refine TS.cd (.tmp 54) (decide (v15 < (r7.length : Int))) (fun hc22 => ?_) (fun hc22 => ?_)
 · replace hF := of_pos hF hc22
   refine TS.sk (NX.sq (TS.sq (TS.bk 1 (TS.sq ?_))))
   obtain ⟨hg23, hF⟩ := of_guard hF
   obtain ⟨o24, h25, hF⟩ := of_do hF
   replace h25 := sj h25
   refine TS.rg (TI.ra 1 [2, 7, 8, 9, 10, 11, 12, 13, 14, 15, 16, 51, 52, 53, 55] (st 289 [(2, .int .u8 p15), (7, pt 2 0), (8, accV 4 r1.2.1.length), (9, accV 5 r1.2.2.length), (10, iv (w64 p14)), (11, iv r3.1), (12, iv r3.2), (13, iv r5.1), (14, iv r5.2), (15, mkV 6 r7.length), (16, iv v14), (51, mkV 6 r7.length), (52, iv (r7.length : Int)), (53, iv v15), (55, iv v15)]) (TI.o { val := .pointer (some ⟨6, 0 + (Int.toNat v15) * 1, none⟩) } (q_ixS 6 0 ((Int.toNat v15) * 1) (by kernel_rfl) hg23) [2, 7, 8, 9, 10, 11, 12, 13, 14, 15, 16, 51, 52, 53, 55, 56] [0, 1, 2, 3, 4, 5, 6] (st 289 [(2, .int .u8 p15), (7, pt 2 0), (8, accV 4 r1.2.1.length), (9, accV 5 r1.2.2.length), (10, iv (w64 p14)), (11, iv r3.1), (12, iv r3.2), (13, iv r5.1), (14, iv r5.2), (15, mkV 6 r7.length), (16, iv v14), (51, mkV 6 r7.length), (52, iv (r7.length : Int)), (53, iv v15), (55, iv v15), (56, .pointer (some ⟨6, 0 + (Int.toNat v15) * 1, none⟩))]) (H8_20 p2 p13 r1 r7) (TI.o { val := iv o24 } (q_n1 Try.prog (H8_20 p2 p13 r1 r7) 3 6 (0 + (Int.toNat v15) * 1) r7 e3 1 3 (Int.toNat v15) 0 0 h25) [2, 7, 8, 9, 10, 11, 12, 13, 14, 15, 16, 51, 52, 53, 55, 57] [0, 1, 2, 3, 4, 5, 6] (st 289 [(2, .int .u8 p15), (7, pt 2 0), (8, accV 4 r1.2.1.length), (9, accV 5 r1.2.2.length), (10, iv (w64 p14)), (11, iv r3.1), (12, iv r3.2), (13, iv r5.1), (14, iv r5.2), (15, mkV 6 r7.length), (16, iv v14), (51, mkV 6 r7.length), (52, iv (r7.length : Int)), (53, iv v15), (55, iv v15), (57, iv o24)]) (H8_20 p2 p13 r1 r7) (TI.ra 2 [2, 7, 8, 9, 10, 11, 12, 13, 14, 15, 16, 17, 18, 51, 52, 53] (st 289 [(2, .int .u8 p15), (7, pt 2 0), (8, accV 4 r1.2.1.length), (9, accV 5 r1.2.2.length), (10, iv (w64 p14)), (11, iv r3.1), (12, iv r3.2), (13, iv r5.1), (14, iv r5.2), (15, mkV 6 r7.length), (16, iv v14), (17, iv v15), (18, iv o24), (51, mkV 6 r7.length), (52, iv (r7.length : Int)), (53, iv v15)]) (TI.dn (NX.sq (TS.sq (TS.rg ?_))))))))
   refine TI.ra 3 [2, 7, 8, 9, 10, 11, 12, 13, 14, 15, 16, 51, 52, 53, 60] (st 289 [(2, .int .u8 p15), (7, pt 2 0), (8, accV 4 r1.2.1.length), (9, accV 5 r1.2.2.length), (10, iv (w64 p14)), (11, iv r3.1), (12, iv r3.2), (13, iv r5.1), (14, iv r5.2), (15, mkV 6 r7.length), (16, iv v14), (51, mkV 6 r7.length), (52, iv (r7.length : Int)), (53, iv v15), (60, .bool (v15 == o24))]) (TI.dn (NX.sq ?_))
   obtain ⟨m29, hm30, hF⟩ := of_do hF
   have hK : NX Try.prog 2 2 [.bk 1, .sq c8.s2.s2.s2.s2.s2.s2.s2.s1.s2.bd.bd.s2.s2.s2] (Rd Try.prog 2 2 c8.s2.s2.s2.s2.s2.s2.s2.s1.s2.bd.bd (P8l0 p2 p13 p14 p15 r1 r3 r5 r7 r)) .normal (st 289 [(2, .int .u8 p15), (7, pt 2 0), (8, accV 4 r1.2.1.length), (9, accV 5 r1.2.2.length), (10, iv (w64 p14)), (11, iv r3.1), (12, iv r3.2), (13, iv r5.1), (14, iv r5.2), (15, mkV 6 r7.length), (16, iv m29), (51, mkV 6 r7.length), (52, iv (r7.length : Int)), (53, iv v15)]) (H8_20 p2 p13 r1 r7) := by
    refine NX.bk (NX.sq (TS.rg (TI.ra 2 [2, 7, 8, 9, 10, 11, 12, 13, 14, 15, 16, 51, 52, 53] (S8_26 p15 r1 p14 r3 r5 r7 m29 v15) (TI.dn ?_))))
    exact Rd.again (a2 := (S8_26 p15 r1 p14 r3 r5 r7 m29 v15)) (h2 := (H8_20 p2 p13 r1 r7)) (Wk.an [2, 3, 4, 5, 6] (.ac (.ac (.lt (.fl (.fl (.cons (Rn.acc (nl rfl) rfl) .nil))) (.ac (.ac (.ac (.cons (At.blk (by kernel_rfl) (RnB.list (fun _ => rfl))) (.nil _)))))))) [.int .u8 p15, pt 2 0, accV 4 r1.2.1.length, accV 5 r1.2.2.length, iv (w64 p14), iv r3.1, iv r3.2, iv r5.1, iv r5.2, mkV 6 r7.length, iv m29, mkV 6 r7.length, iv (r7.length : Int), iv (w64 (v15 + 1))] (.fl (.pp (.cons (Rn.acc (nl rfl) rfl) (.cons (Rn.acc (nl rfl) rfl) (.fl (.fl (.fl (.fl (.fl (.cons (Rn.mk (nl rfl) rfl (by simp only [List.length_set])) (.fl (.cons (Rn.mk (nl rfl) rfl (by simp only [List.length_set])) (.fl (.fl .nil))))))))))))))) (ih m29 (w64 (v15 + 1)) _ hF)
   clear hF
   have hF := hm30
   clear hm30
   refine TS.start ?_
   refine TS.cd (.tmp 60) (v15 == o24) (fun hc31 => ?_) (fun hc31 => ?_)
   · replace hF := of_pos hF hc31
     refine TS.rg (TI.ra 3 [2, 7, 8, 9, 10, 11, 12, 13, 14, 15, 16, 51, 52, 53] (st 289 [(2, .int .u8 p15), (7, pt 2 0), (8, accV 4 r1.2.1.length), (9, accV 5 r1.2.2.length), (10, iv (w64 p14)), (11, iv r3.1), (12, iv r3.2), (13, iv r5.1), (14, iv r5.2), (15, mkV 6 r7.length), (16, iv (w64 (v14 + 1))), (51, mkV 6 r7.length), (52, iv (r7.length : Int)), (53, iv v15)]) (TI.dn ?_))
     have hF := sj hF
     subst hF
     exact TS.weak (by exact (Wk.an [2, 3, 4, 5, 6] (.ac (.ac (.lt (.fl (.fl (.cons (Rn.acc (nl rfl) rfl) .nil))) (.ac (.ac (.ac (.cons (At.blk (by kernel_rfl) (RnB.list (fun _ => rfl))) (.nil _)))))))) [.int .u8 p15, pt 2 0, accV 4 r1.2.1.length, accV 5 r1.2.2.length, iv (w64 p14), iv r3.1, iv r3.2, iv r5.1, iv r5.2, mkV 6 r7.length, iv (w64 (v14 + 1)), mkV 6 r7.length, iv (r7.length : Int), iv v15] (.fl (.pp (.cons (Rn.acc (nl rfl) rfl) (.cons (Rn.acc (nl rfl) rfl) (.fl (.fl (.fl (.fl (.fl (.cons (Rn.mk (nl rfl) rfl (by simp only [List.length_set])) (.fl (.cons (Rn.mk (nl rfl) rfl (by simp only [List.length_set])) (.fl (.fl .nil)))))))))))))))) hK
   replace hF := of_neg hF hc31
   refine TS.sk ?_
   have hF := sj hF
   subst hF
   exact TS.weak (by exact (Wk.an [2, 3, 4, 5, 6] (.ac (.ac (.lt (.fl (.fl (.cons (Rn.acc (nl rfl) rfl) .nil))) (.ac (.ac (.ac (.cons (At.blk (by kernel_rfl) (RnB.list (fun _ => rfl))) (.nil _)))))))) [.int .u8 p15, pt 2 0, accV 4 r1.2.1.length, accV 5 r1.2.2.length, iv (w64 p14), iv r3.1, iv r3.2, iv r5.1, iv r5.2, mkV 6 r7.length, iv v14, mkV 6 r7.length, iv (r7.length : Int), iv v15] (.fl (.pp (.cons (Rn.acc (nl rfl) rfl) (.cons (Rn.acc (nl rfl) rfl) (.fl (.fl (.fl (.fl (.fl (.cons (Rn.mk (nl rfl) rfl (by simp only [List.length_set])) (.fl (.cons (Rn.mk (nl rfl) rfl (by simp only [List.length_set])) (.fl (.fl .nil)))))))))))))))) hK
 replace hF := of_neg hF hc22
 refine TS.ex 0 (NX.sqX ?_)
 have hF := sj hF
 subst hF
 exact Rd.out (e := .exit 0) (by intro h; cases h) (And.intro rfl (Wk.an [2, 3, 4, 5, 6] (.ac (.ac (.lt (.fl (.fl (.cons (Rn.acc (nl rfl) rfl) .nil))) (.ac (.ac (.ac (.cons (At.blk (by kernel_rfl) (RnB.list (fun _ => rfl))) (.nil _)))))))) [.int .u8 p15, pt 2 0, accV 4 r1.2.1.length, accV 5 r1.2.2.length, iv (w64 p14), iv r3.1, iv r3.2, iv r5.1, iv r5.2, mkV 6 r7.length, iv v14] (.fl (.pp (.cons (Rn.acc (nl rfl) rfl) (.cons (Rn.acc (nl rfl) rfl) (.fl (.fl (.fl (.fl (.fl (.cons (Rn.mk (nl rfl) rfl (by simp only [List.length_set])) (.fl .nil)))))))))))))
def P8l1 (p2 p13 : List Int) (p14 p15 o41 : Int) (r1 : (Int × Int × (List I2)) × (List Int) × (List Int)) (r5 : I2) (r7 : List Int) (r : (List Int) × (List Int)) : Post := fun e a h => e = .exit 2 ∧ Wk Try.prog 2 2 a h (st 289 [(7, pt 2 0), (8, accV 4 r.1.length), (9, accV 5 r.2.length), (10, iv (w64 p14)), (13, iv r5.1)]) [ab 5 e5 p2, ab 5 e5 p13, cl 24 [iv r1.1.1, iv r1.1.2.1, accV 3 r1.1.2.2.length], ab 57 e57 r1.1.2.2, ab 3 e3 r.1, ab 3 e3 r.2]
theorem L8l1 (p2 p13 : List Int) (p14 p15 o41 : Int) (r1 : (Int × Int × (List I2)) × (List Int) × (List Int)) (r5 : I2) (r7 : List Int) (v85 : Int) (v83 v84 : List Int) (r : (List Int) × (List Int)) (hF : F8l1 p2 p13 p14 p15 o41 r1 r5 r7 v85 v83 v84 = some r) : TL Try.prog 2 2 c8.s2.s2.s2.s2.s2.s2.s2.s2.s2.s2.s2.s2.s1.s2.bd.bd (st 289 [(2, .int .u8 p15), (7, pt 2 0), (8, accV 4 v83.length), (9, accV 5 v84.length), (10, iv (w64 p14)), (13, iv r5.1), (19, iv o41), (122, mkV 6 r7.length), (123, iv (r7.length : Int)), (124, iv v85)]) (H8_24 p2 p13 r1 v83 v84 r7) (P8l1 p2 p13 p14 p15 o41 r1 r5 r7 r) := by
 refine F8l1.partial_correctness p2 p13 p14 p15 o41 r1 r5 r7 (motive := fun v85 v83 v84 r => TL Try.prog 2 2 c8.s2.s2.s2.s2.s2.s2.s2.s2.s2.s2.s2.s2.s1.s2.bd.bd (st 289 [(2, .int .u8 p15), (7, pt 2 0), (8, accV 4 v83.length), (9, accV 5 v84.length), (10, iv (w64 p14)), (13, iv r5.1), (19, iv o41), (122, mkV 6 r7.length), (123, iv (r7.length : Int)), (124, iv v85)]) (H8_24 p2 p13 r1 v83 v84 r7) (P8l1 p2 p13 p14 p15 o41 r1 r5 r7 r)) ?_ v85 v83 v84 r hF
 clear hF r v85 v83 v84
 intro again ih v85 v83 v84 r hF
 refine TL.round (TS.sq (TS.rg (TI.ra 1 [2, 7, 8, 9, 10, 13, 19, 122, 123, 124, 125] (st 289 [(2, .int .u8 p15), (7, pt 2 0), (8, accV 4 v83.length), (9, accV 5 v84.length), (10, iv (w64 p14)), (13, iv r5.1), (19, iv o41), (122, mkV 6 r7.length), (123, iv (r7.length : Int)), (124, iv v85), (125, .bool (decide (v85 < (r7.length : Int))))]) (TI.dn (NX.sq (TS.sq ?_))))))
 refine TS.cd (.tmp 125) (decide (v85 < (r7.length : Int))) (fun hc110 => ?_) (fun hc110 => ?_)
 · replace hF := of_pos hF hc110
   refine TS.sk (NX.sq (TS.sq (TS.bk 3 (TS.sq ?_))))
   obtain ⟨hg111, hF⟩ := of_guard hF
   obtain ⟨o112, h113, hF⟩ := of_do hF
   replace h113 := sj h113
   refine TS.rg (TI.ra 1 [2, 7, 8, 9, 10, 13, 19, 122, 123, 124, 126] (st 289 [(2, .int .u8 p15), (7, pt 2 0), (8, accV 4 v83.length), (9, accV 5 v84.length), (10, iv (w64 p14)), (13, iv r5.1), (19, iv o41), (122, mkV 6 r7.length), (123, iv (r7.length : Int)), (124, iv v85), (126, iv v85)]) (TI.o { val := .pointer (some ⟨6, 0 + (Int.toNat v85) * 1, none⟩) } (q_ixS 6 0 ((Int.toNat v85) * 1) (by kernel_rfl) hg111) [2, 7, 8, 9, 10, 13, 19, 122, 123, 124, 126, 127] [0, 1, 2, 3, 4, 5, 6] (st 289 [(2, .int .u8 p15), (7, pt 2 0), (8, accV 4 v83.length), (9, accV 5 v84.length), (10, iv (w64 p14)), (13, iv r5.1), (19, iv o41), (122, mkV 6 r7.length), (123, iv (r7.length : Int)), (124, iv v85), (126, iv v85), (127, .pointer (some ⟨6, 0 + (Int.toNat v85) * 1, none⟩))]) (H8_24 p2 p13 r1 v83 v84 r7) (TI.o { val := iv o112 } (q_n1 Try.prog (H8_24 p2 p13 r1 v83 v84 r7) 3 6 (0 + (Int.toNat v85) * 1) r7 e3 1 3 (Int.toNat v85) 0 0 h113) [2, 7, 8, 9, 10, 13, 19, 122, 123, 124, 126, 128] [0, 1, 2, 3, 4, 5, 6] (st 289 [(2, .int .u8 p15), (7, pt 2 0), (8, accV 4 v83.length), (9, accV 5 v84.length), (10, iv (w64 p14)), (13, iv r5.1), (19, iv o41), (122, mkV 6 r7.length), (123, iv (r7.length : Int)), (124, iv v85), (126, iv v85), (128, iv o112)]) (H8_24 p2 p13 r1 v83 v84 r7) (TI.ra 2 [2, 7, 8, 9, 10, 13, 19, 21, 22, 122, 123, 124] (st 289 [(2, .int .u8 p15), (7, pt 2 0), (8, accV 4 v83.length), (9, accV 5 v84.length), (10, iv (w64 p14)), (13, iv r5.1), (19, iv o41), (21, iv v85), (22, iv o112), (122, mkV 6 r7.length), (123, iv (r7.length : Int)), (124, iv v85)]) (TI.dn (NX.sq (TS.sq (TS.sq ?_))))))))
   obtain ⟨m115, hm137, hF⟩ := of_do hF
   have hK : NX Try.prog 2 2 [.sq c8.s2.s2.s2.s2.s2.s2.s2.s2.s2.s2.s2.s2.s1.s2.bd.bd.s2.s2.s1.bd.s2.s1.s2, .sq c8.s2.s2.s2.s2.s2.s2.s2.s2.s2.s2.s2.s2.s1.s2.bd.bd.s2.s2.s1.bd.s2.s2, .bk 3, .sq c8.s2.s2.s2.s2.s2.s2.s2.s2.s2.s2.s2.s2.s1.s2.bd.bd.s2.s2.s2] (Rd Try.prog 2 2 c8.s2.s2.s2.s2.s2.s2.s2.s2.s2.s2.s2.s2.s1.s2.bd.bd (P8l1 p2 p13 p14 p15 o41 r1 r5 r7 r)) .normal (st 289 [(2, .int .u8 p15), (7, pt 2 0), (8, accV 4 v83.length), (9, accV 5 v84.length), (10, iv (w64 p14)), (13, iv r5.1), (19, iv o41), (21, iv v85), (22, iv o112), (122, mkV 6 r7.length), (123, iv (r7.length : Int)), (124, iv v85), (137, .bool m115)]) (H8_24 p2 p13 r1 v83 v84 r7) := by
    refine NX.sq ?_
    obtain ⟨m120, hm121, hF⟩ := of_do hF
    have hK : NX Try.prog 2 2 [.sq c8.s2.s2.s2.s2.s2.s2.s2.s2.s2.s2.s2.s2.s1.s2.bd.bd.s2.s2.s1.bd.s2.s2, .bk 3, .sq c8.s2.s2.s2.s2.s2.s2.s2.s2.s2.s2.s2.s2.s1.s2.bd.bd.s2.s2.s2] (Rd Try.prog 2 2 c8.s2.s2.s2.s2.s2.s2.s2.s2.s2.s2.s2.s2.s1.s2.bd.bd (P8l1 p2 p13 p14 p15 o41 r1 r5 r7 r)) .normal (st 289 [(2, .int .u8 p15), (7, pt 2 0), (8, accV 4 m120.length), (9, accV 5 v84.length), (10, iv (w64 p14)), (13, iv r5.1), (19, iv o41), (21, iv v85), (22, iv o112), (122, mkV 6 r7.length), (123, iv (r7.length : Int)), (124, iv v85)]) (H8_23 p2 p13 r1 m120 v84 r7) := by
     refine NX.sq (TS.sq ?_)
     obtain ⟨m123, hm133, hF⟩ := of_do hF
     have hK : NX Try.prog 2 2 [.sq c8.s2.s2.s2.s2.s2.s2.s2.s2.s2.s2.s2.s2.s1.s2.bd.bd.s2.s2.s1.bd.s2.s2.s2, .bk 3, .sq c8.s2.s2.s2.s2.s2.s2.s2.s2.s2.s2.s2.s2.s1.s2.bd.bd.s2.s2.s2] (Rd Try.prog 2 2 c8.s2.s2.s2.s2.s2.s2.s2.s2.s2.s2.s2.s2.s1.s2.bd.bd (P8l1 p2 p13 p14 p15 o41 r1 r5 r7 r)) .normal (st 289 [(2, .int .u8 p15), (7, pt 2 0), (8, accV 4 m120.length), (9, accV 5 v84.length), (10, iv (w64 p14)), (13, iv r5.1), (19, iv o41), (21, iv v85), (122, mkV 6 r7.length), (123, iv (r7.length : Int)), (124, iv v85), (154, .bool m123)]) (H8_23 p2 p13 r1 m120 v84 r7) := by
      refine NX.sq ?_
      obtain ⟨m128, hm129, hF⟩ := of_do hF
      have hK : NX Try.prog 2 2 [.bk 3, .sq c8.s2.s2.s2.s2.s2.s2.s2.s2.s2.s2.s2.s2.s1.s2.bd.bd.s2.s2.s2] (Rd Try.prog 2 2 c8.s2.s2.s2.s2.s2.s2.s2.s2.s2.s2.s2.s2.s1.s2.bd.bd (P8l1 p2 p13 p14 p15 o41 r1 r5 r7 r)) .normal (st 289 [(2, .int .u8 p15), (7, pt 2 0), (8, accV 4 m120.length), (9, accV 5 m128.length), (10, iv (w64 p14)), (13, iv r5.1), (19, iv o41), (122, mkV 6 r7.length), (123, iv (r7.length : Int)), (124, iv v85)]) (H8_22 p2 p13 r1 m120 m128 r7) := by
       refine NX.bk (NX.sq (TS.rg (TI.ra 2 [2, 7, 8, 9, 10, 13, 19, 122, 123, 124] (st 289 [(2, .int .u8 p15), (7, pt 2 0), (8, accV 4 m120.length), (9, accV 5 m128.length), (10, iv (w64 p14)), (13, iv r5.1), (19, iv o41), (122, mkV 6 r7.length), (123, iv (r7.length : Int)), (124, iv (w64 (v85 + 1)))]) (TI.dn ?_))))
       exact Rd.again (a2 := (st 289 [(2, .int .u8 p15), (7, pt 2 0), (8, accV 4 m120.length), (9, accV 5 m128.length), (10, iv (w64 p14)), (13, iv r5.1), (19, iv o41), (122, mkV 6 r7.length), (123, iv (r7.length : Int)), (124, iv (w64 (v85 + 1)))])) (h2 := (H8_22 p2 p13 r1 m120 m128 r7)) (Wk.an [2, 3, 4, 5, 6] (.ac (.ac (.lt (.fl (.fl (.cons (Rn.acc (nl rfl) rfl) .nil))) (.ac (.ac (.ac (.cons (At.blk (by kernel_rfl) (RnB.list (fun _ => rfl))) (.nil _)))))))) [.int .u8 p15, pt 2 0, accV 4 m120.length, accV 5 m128.length, iv (w64 p14), iv r5.1, iv o41, mkV 6 r7.length, iv (r7.length : Int), iv (w64 (v85 + 1))] (.fl (.pp (.cons (Rn.acc (nl rfl) rfl) (.cons (Rn.acc (nl rfl) rfl) (.fl (.fl (.fl (.cons (Rn.mk (nl rfl) rfl (by simp only [List.length_set])) (.fl (.fl .nil))))))))))) (ih (w64 (v85 + 1)) m120 m128 _ hF)
      clear hF
      have hF := hm129
      clear hm129
      refine TS.start ?_
      cases m123 with
      | true =>
       replace hF := of_pos hF rfl
       refine TS.cdT (.tmp 154) ?_
       obtain ⟨hg130, hF⟩ := of_guard hF
       obtain ⟨o131, h132, hF⟩ := of_do hF
       replace h132 := sj h132
       refine TS.rg (TI.ra 5 [2, 7, 8, 9, 10, 13, 19, 122, 123, 124, 155, 159] (st 289 [(2, .int .u8 p15), (7, pt 2 0), (8, accV 4 m120.length), (9, accV 5 v84.length), (10, iv (w64 p14)), (13, iv r5.1), (19, iv o41), (122, mkV 6 r7.length), (123, iv (r7.length : Int)), (124, iv v85), (155, accV 5 v84.length), (159, iv (w64 (v85 - r1.1.1)))]) (TI.o { val := .pointer (some ⟨5, 0 + (Int.toNat (w64 (v85 - r1.1.1))) * 1, none⟩) } (q_ixAcc (P := Try.prog) (t := 30) (s := 1) (e := 3) 5 v84.length (by kernel_rfl) hg130 (by kernel_rfl) (by kernel_rfl)) [2, 7, 8, 9, 10, 13, 19, 122, 123, 124, 155, 159, 160] [0, 1, 2, 3, 4, 5, 6] (st 289 [(2, .int .u8 p15), (7, pt 2 0), (8, accV 4 m120.length), (9, accV 5 v84.length), (10, iv (w64 p14)), (13, iv r5.1), (19, iv o41), (122, mkV 6 r7.length), (123, iv (r7.length : Int)), (124, iv v85), (155, accV 5 v84.length), (159, iv (w64 (v85 - r1.1.1))), (160, .pointer (some ⟨5, 0 + (Int.toNat (w64 (v85 - r1.1.1))) * 1, none⟩))]) (H8_23 p2 p13 r1 m120 v84 r7) (TI.o { val := iv o131 } (q_n1a Try.prog (H8_23 p2 p13 r1 m120 v84 r7) 3 5 (0 + (Int.toNat (w64 (v85 - r1.1.1))) * 1) v84 e3 1 3 (Int.toNat (w64 (v85 - r1.1.1))) 0 0 h132) [2, 7, 8, 9, 10, 13, 19, 122, 123, 124, 155, 159, 161] [0, 1, 2, 3, 4, 5, 6] (st 289 [(2, .int .u8 p15), (7, pt 2 0), (8, accV 4 m120.length), (9, accV 5 v84.length), (10, iv (w64 p14)), (13, iv r5.1), (19, iv o41), (122, mkV 6 r7.length), (123, iv (r7.length : Int)), (124, iv v85), (155, accV 5 v84.length), (159, iv (w64 (v85 - r1.1.1))), (161, iv o131)]) (H8_23 p2 p13 r1 m120 v84 r7) (TI.ra 3 [2, 7, 8, 9, 10, 13, 19, 122, 123, 124, 155, 159, 164] (st 289 [(2, .int .u8 p15), (7, pt 2 0), (8, accV 4 m120.length), (9, accV 5 v84.length), (10, iv (w64 p14)), (13, iv r5.1), (19, iv o41), (122, mkV 6 r7.length), (123, iv (r7.length : Int)), (124, iv v85), (155, accV 5 v84.length), (159, iv (w64 (v85 - r1.1.1))), (164, iv (w64 (o131 - (w64 p15))))]) (TI.o { val := .pointer (some ⟨5, 0 + (Int.toNat (w64 (v85 - r1.1.1))) * 1, none⟩) } (q_ixAcc (P := Try.prog) (t := 30) (s := 1) (e := 3) 5 v84.length (by kernel_rfl) hg130 (by kernel_rfl) (by kernel_rfl)) [2, 7, 8, 9, 10, 13, 19, 122, 123, 124, 164, 165] [0, 1, 2, 3, 4, 5, 6] (st 289 [(2, .int .u8 p15), (7, pt 2 0), (8, accV 4 m120.length), (9, accV 5 v84.length), (10, iv (w64 p14)), (13, iv r5.1), (19, iv o41), (122, mkV 6 r7.length), (123, iv (r7.length : Int)), (124, iv v85), (164, iv (w64 (o131 - (w64 p15)))), (165, .pointer (some ⟨5, 0 + (Int.toNat (w64 (v85 - r1.1.1))) * 1, none⟩))]) (H8_23 p2 p13 r1 m120 v84 r7) ?_)))))
       refine TI.o { val := undef, upd := some (5, .cells 3 (List.flatMap e3 (List.set v84 (Int.toNat (w64 (v85 - r1.1.1))) (w64 (o131 - (w64 p15)))))) } (q_st (P := Try.prog) (base := 2) (hp := (H8_23 p2 p13 r1 m120 v84 r7)) (t := 3) (b := 5) (off := 0 + (Int.toNat (w64 (v85 - r1.1.1))) * 1) (l := v84) (enc := e3) (s := 1) (T := 3) (i := Int.toNat (w64 (v85 - r1.1.1))) (k := 0) (n := 1) (y := iv (w64 (o131 - (w64 p15)))) (xs := [iv (w64 (o131 - (w64 p15)))]) 0 (w64 (o131 - (w64 p15))) (by kernel_rfl) (accB_at (h := (H8_23 p2 p13 r1 m120 v84 r7)) (n := List.length v84) (i := Int.toNat (w64 (v85 - r1.1.1))) (by kernel_rfl) (by first | omega | (simp <;> omega))) (by decide) (by kernel_rfl) (by kernel_rfl) rfl (by kernel_rfl) (fun _ => rfl) (by omega) (nl rfl) (by first | omega | (simp <;> omega)) rfl) [2, 7, 8, 9, 10, 13, 19, 122, 123, 124] [0, 1, 2, 3, 4, 5, 6] (st 289 [(2, .int .u8 p15), (7, pt 2 0), (8, accV 4 m120.length), (9, accV 5 v84.length), (10, iv (w64 p14)), (13, iv r5.1), (19, iv o41), (122, mkV 6 r7.length), (123, iv (r7.length : Int)), (124, iv v85)]) [ab 5 e5 p2, ab 5 e5 p13, cl 24 [iv r1.1.1, iv r1.1.2.1, accV 3 r1.1.2.2.length], ab 57 e57 r1.1.2.2, ab 3 e3 m120, .cells 3 (List.flatMap e3 (List.set v84 (Int.toNat (w64 (v85 - r1.1.1))) (w64 (o131 - (w64 p15))))), .cells 3 (List.flatMap e3 r7)] (TI.dn ?_)
       have hF := sj hF
       subst hF
       exact TS.weak (by exact (Wk.an [2, 3, 4, 5, 6] (.ac (.ac (.lt (.fl (.fl (.cons (Rn.acc (nl rfl) rfl) .nil))) (.ac (.ac (.cons (At.accU (by kernel_rfl) rfl (fun _ => rfl)) (.cons (At.blk (by kernel_rfl) (RnB.list (fun _ => rfl))) (.nil _)))))))) [.int .u8 p15, pt 2 0, accV 4 m120.length, accV 5 v84.length, iv (w64 p14), iv r5.1, iv o41, mkV 6 r7.length, iv (r7.length : Int), iv v85] (.fl (.pp (.cons (Rn.acc (nl rfl) rfl) (.cons (accE (c := List.length (List.set v84 (Int.toNat (w64 (v85 - r1.1.1))) (w64 (o131 - (w64 p15))))) (c' := List.length v84) (nl rfl) rfl (by simp only [List.length_set])) (.fl (.fl (.fl (.cons (Rn.mk (nl rfl) rfl (by simp only [List.length_set])) (.fl (.fl .nil)))))))))))) hK
      | false =>
       replace hF := of_neg hF rfl
       refine TS.cdF (.tmp 154) (TS.sk ?_)
       have hF := sj hF
       subst hF
       exact TS.weak (by exact (Wk.an [2, 3, 4, 5, 6] (.ac (.ac (.lt (.fl (.fl (.cons (Rn.acc (nl rfl) rfl) .nil))) (.ac (.ac (.ac (.cons (At.blk (by kernel_rfl) (RnB.list (fun _ => rfl))) (.nil _)))))))) [.int .u8 p15, pt 2 0, accV 4 m120.length, accV 5 v84.length, iv (w64 p14), iv r5.1, iv o41, mkV 6 r7.length, iv (r7.length : Int), iv v85] (.fl (.pp (.cons (Rn.acc (nl rfl) rfl) (.cons (Rn.acc (nl rfl) rfl) (.fl (.fl (.fl (.cons (Rn.mk (nl rfl) rfl (by simp only [List.length_set])) (.fl (.fl .nil)))))))))))) hK
     rcases Bool.eq_false_or_eq_true (o112 == o41) with hc122 | hc122
     · replace hm133 := of_pos hm133 hc122
       have hm133 := sj hm133
       subst hm133
       exact TS.rg (TI.ra 2 [2, 7, 8, 9, 10, 13, 19, 21, 122, 123, 124, 146, 147] (st 289 [(2, .int .u8 p15), (7, pt 2 0), (8, accV 4 m120.length), (9, accV 5 v84.length), (10, iv (w64 p14)), (13, iv r5.1), (19, iv o41), (21, iv v85), (122, mkV 6 r7.length), (123, iv (r7.length : Int)), (124, iv v85), (146, iv o112), (147, iv o41)]) (TI.o { val := .bool true } (q_conv (e := o112 == o41) (b := true) (by kernel_rfl) hc122) [2, 7, 8, 9, 10, 13, 19, 21, 122, 123, 124, 148] [0, 1, 2, 3, 4, 5, 6] (st 289 [(2, .int .u8 p15), (7, pt 2 0), (8, accV 4 m120.length), (9, accV 5 v84.length), (10, iv (w64 p14)), (13, iv r5.1), (19, iv o41), (21, iv v85), (122, mkV 6 r7.length), (123, iv (r7.length : Int)), (124, iv v85), (148, .bool true)]) (H8_23 p2 p13 r1 m120 v84 r7) (TI.ra 6 [2, 7, 8, 9, 10, 13, 19, 21, 122, 123, 124, 154] (st 289 [(2, .int .u8 p15), (7, pt 2 0), (8, accV 4 m120.length), (9, accV 5 v84.length), (10, iv (w64 p14)), (13, iv r5.1), (19, iv o41), (21, iv v85), (122, mkV 6 r7.length), (123, iv (r7.length : Int)), (124, iv v85), (154, .bool (decide (v85 ≥ r1.1.1)))]) (TI.dn hK))))
     replace hm133 := of_neg hm133 hc122
     have hm133 := sj hm133
     subst hm133
     exact TS.rg (TI.ra 2 [2, 7, 8, 9, 10, 13, 19, 21, 122, 123, 124, 146, 147] (st 289 [(2, .int .u8 p15), (7, pt 2 0), (8, accV 4 m120.length), (9, accV 5 v84.length), (10, iv (w64 p14)), (13, iv r5.1), (19, iv o41), (21, iv v85), (122, mkV 6 r7.length), (123, iv (r7.length : Int)), (124, iv v85), (146, iv o112), (147, iv o41)]) (TI.o { val := .bool false } (q_conv (e := o112 == o41) (b := false) (by kernel_rfl) hc122) [2, 7, 8, 9, 10, 13, 19, 21, 122, 123, 124, 148] [0, 1, 2, 3, 4, 5, 6] (st 289 [(2, .int .u8 p15), (7, pt 2 0), (8, accV 4 m120.length), (9, accV 5 v84.length), (10, iv (w64 p14)), (13, iv r5.1), (19, iv o41), (21, iv v85), (122, mkV 6 r7.length), (123, iv (r7.length : Int)), (124, iv v85), (148, .bool false)]) (H8_23 p2 p13 r1 m120 v84 r7) (TI.ra 6 [2, 7, 8, 9, 10, 13, 19, 21, 122, 123, 124, 154] (st 289 [(2, .int .u8 p15), (7, pt 2 0), (8, accV 4 m120.length), (9, accV 5 v84.length), (10, iv (w64 p14)), (13, iv r5.1), (19, iv o41), (21, iv v85), (122, mkV 6 r7.length), (123, iv (r7.length : Int)), (124, iv v85), (154, .bool false)]) (TI.dn hK))))
    clear hF
    have hF := hm121
    clear hm121
    refine TS.start ?_
    cases m115 with
    | true =>
     replace hF := of_pos hF rfl
     refine TS.cdT (.tmp 137) ?_
     obtain ⟨hg134, hF⟩ := of_guard hF
     obtain ⟨o135, h136, hF⟩ := of_do hF
     replace h136 := sj h136
     refine TS.rg (TI.ra 2 [2, 7, 8, 9, 10, 13, 19, 21, 22, 122, 123, 124, 138, 139] (st 289 [(2, .int .u8 p15), (7, pt 2 0), (8, accV 4 v83.length), (9, accV 5 v84.length), (10, iv (w64 p14)), (13, iv r5.1), (19, iv o41), (21, iv v85), (22, iv o112), (122, mkV 6 r7.length), (123, iv (r7.length : Int)), (124, iv v85), (138, accV 4 v83.length), (139, iv v85)]) (TI.o { val := .pointer (some ⟨4, 0 + (Int.toNat v85) * 1, none⟩) } (q_ixAcc (P := Try.prog) (t := 30) (s := 1) (e := 3) 4 v83.length (by kernel_rfl) hg134 (by kernel_rfl) (by kernel_rfl)) [2, 7, 8, 9, 10, 13, 19, 21, 22, 122, 123, 124, 138, 139, 140] [0, 1, 2, 3, 4, 5, 6] (st 289 [(2, .int .u8 p15), (7, pt 2 0), (8, accV 4 v83.length), (9, accV 5 v84.length), (10, iv (w64 p14)), (13, iv r5.1), (19, iv o41), (21, iv v85), (22, iv o112), (122, mkV 6 r7.length), (123, iv (r7.length : Int)), (124, iv v85), (138, accV 4 v83.length), (139, iv v85), (140, .pointer (some ⟨4, 0 + (Int.toNat v85) * 1, none⟩))]) (H8_24 p2 p13 r1 v83 v84 r7) (TI.o { val := iv o135 } (q_n1a Try.prog (H8_24 p2 p13 r1 v83 v84 r7) 3 4 (0 + (Int.toNat v85) * 1) v83 e3 1 3 (Int.toNat v85) 0 0 h136) [2, 7, 8, 9, 10, 13, 19, 21, 22, 122, 123, 124, 138, 139, 141] [0, 1, 2, 3, 4, 5, 6] (st 289 [(2, .int .u8 p15), (7, pt 2 0), (8, accV 4 v83.length), (9, accV 5 v84.length), (10, iv (w64 p14)), (13, iv r5.1), (19, iv o41), (21, iv v85), (22, iv o112), (122, mkV 6 r7.length), (123, iv (r7.length : Int)), (124, iv v85), (138, accV 4 v83.length), (139, iv v85), (141, iv o135)]) (H8_24 p2 p13 r1 v83 v84 r7) (TI.ra 3 [2, 7, 8, 9, 10, 13, 19, 21, 22, 122, 123, 124, 138, 139, 144] (st 289 [(2, .int .u8 p15), (7, pt 2 0), (8, accV 4 v83.length), (9, accV 5 v84.length), (10, iv (w64 p14)), (13, iv r5.1), (19, iv o41), (21, iv v85), (22, iv o112), (122, mkV 6 r7.length), (123, iv (r7.length : Int)), (124, iv v85), (138, accV 4 v83.length), (139, iv v85), (144, iv (w64 (o135 + (w64 p15))))]) (TI.o { val := .pointer (some ⟨4, 0 + (Int.toNat v85) * 1, none⟩) } (q_ixAcc (P := Try.prog) (t := 30) (s := 1) (e := 3) 4 v83.length (by kernel_rfl) hg134 (by kernel_rfl) (by kernel_rfl)) [2, 7, 8, 9, 10, 13, 19, 21, 22, 122, 123, 124, 144, 145] [0, 1, 2, 3, 4, 5, 6] (st 289 [(2, .int .u8 p15), (7, pt 2 0), (8, accV 4 v83.length), (9, accV 5 v84.length), (10, iv (w64 p14)), (13, iv r5.1), (19, iv o41), (21, iv v85), (22, iv o112), (122, mkV 6 r7.length), (123, iv (r7.length : Int)), (124, iv v85), (144, iv (w64 (o135 + (w64 p15)))), (145, .pointer (some ⟨4, 0 + (Int.toNat v85) * 1, none⟩))]) (H8_24 p2 p13 r1 v83 v84 r7) ?_)))))
     refine TI.o { val := undef, upd := some (4, .cells 3 (List.flatMap e3 (List.set v83 (Int.toNat v85) (w64 (o135 + (w64 p15)))))) } (q_st (P := Try.prog) (base := 2) (hp := (H8_24 p2 p13 r1 v83 v84 r7)) (t := 3) (b := 4) (off := 0 + (Int.toNat v85) * 1) (l := v83) (enc := e3) (s := 1) (T := 3) (i := Int.toNat v85) (k := 0) (n := 1) (y := iv (w64 (o135 + (w64 p15)))) (xs := [iv (w64 (o135 + (w64 p15)))]) 0 (w64 (o135 + (w64 p15))) (by kernel_rfl) (accB_at (h := (H8_24 p2 p13 r1 v83 v84 r7)) (n := List.length v83) (i := Int.toNat v85) (by kernel_rfl) (by first | omega | (simp <;> omega))) (by decide) (by kernel_rfl) (by kernel_rfl) rfl (by kernel_rfl) (fun _ => rfl) (by omega) (nl rfl) (by first | omega | (simp <;> omega)) rfl) [2, 7, 8, 9, 10, 13, 19, 21, 22, 122, 123, 124] [0, 1, 2, 3, 4, 5, 6] (st 289 [(2, .int .u8 p15), (7, pt 2 0), (8, accV 4 v83.length), (9, accV 5 v84.length), (10, iv (w64 p14)), (13, iv r5.1), (19, iv o41), (21, iv v85), (22, iv o112), (122, mkV 6 r7.length), (123, iv (r7.length : Int)), (124, iv v85)]) [ab 5 e5 p2, ab 5 e5 p13, cl 24 [iv r1.1.1, iv r1.1.2.1, accV 3 r1.1.2.2.length], ab 57 e57 r1.1.2.2, .cells 3 (List.flatMap e3 (List.set v83 (Int.toNat v85) (w64 (o135 + (w64 p15))))), ab 3 e3 v84, .cells 3 (List.flatMap e3 r7)] (TI.dn ?_)
     have hF := sj hF
     subst hF
     exact TS.weak (by exact (Wk.an [2, 3, 4, 5, 6] (.ac (.ac (.lt (.fl (.fl (.cons (Rn.acc (nl rfl) rfl) .nil))) (.ac (.cons (At.accU (by kernel_rfl) rfl (fun _ => rfl)) (.ac (.cons (At.blk (by kernel_rfl) (RnB.list (fun _ => rfl))) (.nil _)))))))) [.int .u8 p15, pt 2 0, accV 4 v83.length, accV 5 v84.length, iv (w64 p14), iv r5.1, iv o41, iv v85, iv o112, mkV 6 r7.length, iv (r7.length : Int), iv v85] (.fl (.pp (.cons (accE (c := List.length (List.set v83 (Int.toNat v85) (w64 (o135 + (w64 p15))))) (c' := List.length v83) (nl rfl) rfl (by simp only [List.length_set])) (.cons (Rn.acc (nl rfl) rfl) (.fl (.fl (.fl (.fl (.fl (.cons (Rn.mk (nl rfl) rfl (by simp only [List.length_set])) (.fl (.fl .nil)))))))))))))) hK
    | false =>
     replace hF := of_neg hF rfl
     refine TS.cdF (.tmp 137) (TS.sk ?_)
     have hF := sj hF
     subst hF
     exact TS.weak (by exact (Wk.an [2, 3, 4, 5, 6] (.ac (.ac (.lt (.fl (.fl (.cons (Rn.acc (nl rfl) rfl) .nil))) (.ac (.ac (.ac (.cons (At.blk (by kernel_rfl) (RnB.list (fun _ => rfl))) (.nil _)))))))) [.int .u8 p15, pt 2 0, accV 4 v83.length, accV 5 v84.length, iv (w64 p14), iv r5.1, iv o41, iv v85, iv o112, mkV 6 r7.length, iv (r7.length : Int), iv v85] (.fl (.pp (.cons (Rn.acc (nl rfl) rfl) (.cons (Rn.acc (nl rfl) rfl) (.fl (.fl (.fl (.fl (.fl (.cons (Rn.mk (nl rfl) rfl (by simp only [List.length_set])) (.fl (.fl .nil)))))))))))))) hK
   rcases Bool.eq_false_or_eq_true (o112 == o41) with hc114 | hc114
   · replace hm137 := of_pos hm137 hc114
     have hm137 := sj hm137
     subst hm137
     exact TS.rg (TI.ra 2 [2, 7, 8, 9, 10, 13, 19, 21, 22, 122, 123, 124, 129, 130] (S8_28 p15 v83 v84 p14 r5 o41 v85 o112 r7) (TI.o { val := .bool true } (q_conv (e := o112 == o41) (b := true) (by kernel_rfl) hc114) [2, 7, 8, 9, 10, 13, 19, 21, 22, 122, 123, 124, 131] [0, 1, 2, 3, 4, 5, 6] (st 289 [(2, .int .u8 p15), (7, pt 2 0), (8, accV 4 v83.length), (9, accV 5 v84.length), (10, iv (w64 p14)), (13, iv r5.1), (19, iv o41), (21, iv v85), (22, iv o112), (122, mkV 6 r7.length), (123, iv (r7.length : Int)), (124, iv v85), (131, .bool true)]) (H8_24 p2 p13 r1 v83 v84 r7) (TI.ra 6 [2, 7, 8, 9, 10, 13, 19, 21, 22, 122, 123, 124, 137] (st 289 [(2, .int .u8 p15), (7, pt 2 0), (8, accV 4 v83.length), (9, accV 5 v84.length), (10, iv (w64 p14)), (13, iv r5.1), (19, iv o41), (21, iv v85), (22, iv o112), (122, mkV 6 r7.length), (123, iv (r7.length : Int)), (124, iv v85), (137, .bool (decide (v85 < r1.1.1)))]) (TI.dn hK))))
   replace hm137 := of_neg hm137 hc114
   have hm137 := sj hm137
   subst hm137
   exact TS.rg (TI.ra 2 [2, 7, 8, 9, 10, 13, 19, 21, 22, 122, 123, 124, 129, 130] (S8_28 p15 v83 v84 p14 r5 o41 v85 o112 r7) (TI.o { val := .bool false } (q_conv (e := o112 == o41) (b := false) (by kernel_rfl) hc114) [2, 7, 8, 9, 10, 13, 19, 21, 22, 122, 123, 124, 131] [0, 1, 2, 3, 4, 5, 6] (st 289 [(2, .int .u8 p15), (7, pt 2 0), (8, accV 4 v83.length), (9, accV 5 v84.length), (10, iv (w64 p14)), (13, iv r5.1), (19, iv o41), (21, iv v85), (22, iv o112), (122, mkV 6 r7.length), (123, iv (r7.length : Int)), (124, iv v85), (131, .bool false)]) (H8_24 p2 p13 r1 v83 v84 r7) (TI.ra 6 [2, 7, 8, 9, 10, 13, 19, 21, 22, 122, 123, 124, 137] (st 289 [(2, .int .u8 p15), (7, pt 2 0), (8, accV 4 v83.length), (9, accV 5 v84.length), (10, iv (w64 p14)), (13, iv r5.1), (19, iv o41), (21, iv v85), (22, iv o112), (122, mkV 6 r7.length), (123, iv (r7.length : Int)), (124, iv v85), (137, .bool false)]) (TI.dn hK))))
 replace hF := of_neg hF hc110
 refine TS.ex 2 (NX.sqX ?_)
 have hF := sj hF
 subst hF
 exact Rd.out (e := .exit 2) (by intro h; cases h) (And.intro rfl (Wk.an [2, 3, 4, 5] (.ac (.ac (.lt (.fl (.fl (.cons (Rn.acc (nl rfl) rfl) .nil))) (.ac (.ac (.ac (.nil _))))))) [pt 2 0, accV 4 v83.length, accV 5 v84.length, iv (w64 p14), iv r5.1] (.pp (.cons (Rn.acc (nl rfl) rfl) (.cons (Rn.acc (nl rfl) rfl) (.fl (.fl .nil)))))))
def P8l2 (p2 p13 : List Int) (p14 : Int) (r1 : (Int × Int × (List I2)) × (List Int) × (List Int)) (r5 : I2) (r138 : (List Int) × (List Int)) (r : Unit ⊕ Unit) : Post := fun e a h => (match r with | .inl q0 => e = .ret ∧ Wk Try.prog 2 2 a h (st 289 [(6, .bool false)]) (H8_37 p2 p13) | .inr q0 => e = .exit 4 ∧ Wk Try.prog 2 2 a h (S8_35 r138 p14 r5) (H8_25 p2 p13 r1 r138))
theorem L8l2 (p2 p13 : List Int) (p14 : Int) (r1 : (Int × Int × (List I2)) × (List Int) × (List Int)) (r5 : I2) (r138 : (List Int) × (List Int)) (v153 : Int) (r : Unit ⊕ Unit) (hF : F8l2 p2 p13 p14 r1 r5 r138 v153 = some r) : TL Try.prog 2 2 c8.s2.s2.s2.s2.s2.s2.s2.s2.s2.s2.s2.s2.s2.s1.s2.bd.bd (st 289 [(7, pt 2 0), (8, accV 4 r138.1.length), (9, accV 5 r138.2.length), (10, iv (w64 p14)), (13, iv r5.1), (168, accV 3 r1.1.2.2.length), (169, iv (r1.1.2.2.length : Int)), (170, iv v153)]) (H8_25 p2 p13 r1 r138) (P8l2 p2 p13 p14 r1 r5 r138 r) := by
 refine F8l2.partial_correctness p2 p13 p14 r1 r5 r138 (motive := fun v153 r => TL Try.prog 2 2 c8.s2.s2.s2.s2.s2.s2.s2.s2.s2.s2.s2.s2.s2.s1.s2.bd.bd (st 289 [(7, pt 2 0), (8, accV 4 r138.1.length), (9, accV 5 r138.2.length), (10, iv (w64 p14)), (13, iv r5.1), (168, accV 3 r1.1.2.2.length), (169, iv (r1.1.2.2.length : Int)), (170, iv v153)]) (H8_25 p2 p13 r1 r138) (P8l2 p2 p13 p14 r1 r5 r138 r)) ?_ v153 r hF
 clear hF r v153
 intro again ih v153 r hF
 refine TL.round (TS.sq (TS.rg (TI.ra 1 [7, 8, 9, 10, 13, 168, 169, 170, 171] (st 289 [(7, pt 2 0), (8, accV 4 r138.1.length), (9, accV 5 r138.2.length), (10, iv (w64 p14)), (13, iv r5.1), (168, accV 3 r1.1.2.2.length), (169, iv (r1.1.2.2.length : Int)), (170, iv v153), (171, .bool (decide (v153 < (r1.1.2.2.length : Int))))]) (TI.dn (NX.sq (TS.sq ?_))))))
 refine TS.cd (.tmp 171) (decide (v153 < (r1.1.2.2.length : Int))) (fun hc167 => ?_) (fun hc167 => ?_)
 · replace hF := of_pos hF hc167
   refine TS.sk (NX.sq (TS.sq (TS.bk 5 (TS.sq ?_))))
   obtain ⟨hg168, hF⟩ := of_guard hF
   obtain ⟨o169, h170, hF⟩ := of_do hF
   replace h170 := sj h170
   refine TS.rg (TI.o { val := .pointer (some ⟨3, 0 + (Int.toNat v153) * 2, none⟩) } (q_ixAcc (P := Try.prog) (t := 22) (s := 2) (e := 57) 3 r1.1.2.2.length (by kernel_rfl) hg168 (by kernel_rfl) (by kernel_rfl)) [7, 8, 9, 10, 13, 168, 169, 170, 172] [0, 1, 2, 3, 4, 5] (st 289 [(7, pt 2 0), (8, accV 4 r138.1.length), (9, accV 5 r138.2.length), (10, iv (w64 p14)), (13, iv r5.1), (168, accV 3 r1.1.2.2.length), (169, iv (r1.1.2.2.length : Int)), (170, iv v153), (172, .pointer (some ⟨3, 0 + (Int.toNat v153) * 2, none⟩))]) (H8_25 p2 p13 r1 r138) (TI.o { val := ag [iv o169.1, iv o169.2] } (q_nAa Try.prog (H8_25 p2 p13 r1 r138) 57 3 (0 + (Int.toNat v153) * 2) r1.1.2.2 e57 2 57 (Int.toNat v153) (0, 0) h170) [7, 8, 9, 10, 13, 168, 169, 170, 173] [0, 1, 2, 3, 4, 5] (st 289 [(7, pt 2 0), (8, accV 4 r138.1.length), (9, accV 5 r138.2.length), (10, iv (w64 p14)), (13, iv r5.1), (168, accV 3 r1.1.2.2.length), (169, iv (r1.1.2.2.length : Int)), (170, iv v153), (173, ag [iv o169.1, iv o169.2])]) (H8_25 p2 p13 r1 r138) (TI.rn 2 [7, 8, 9, 10, 13, 24, 168, 169, 170] [0, 1, 2, 3, 4, 5, 6] (st 289 [(7, pt 2 0), (8, accV 4 r138.1.length), (9, accV 5 r138.2.length), (10, iv (w64 p14)), (13, iv r5.1), (24, pt 6 0), (168, accV 3 r1.1.2.2.length), (169, iv (r1.1.2.2.length : Int)), (170, iv v153)]) (H8_21 p2 p13 r1 r138 o169) (TI.dn (NX.sq (TS.sq ?_))))))
   obtain ⟨hg171, hF⟩ := of_guardn hF
   obtain ⟨hg172, hF⟩ := of_guard hF
   obtain ⟨o173, h174, hF⟩ := of_do hF
   replace h174 := sj h174
   obtain ⟨hg175, hF⟩ := of_guardn hF
   obtain ⟨hg176, hF⟩ := of_guard hF
   obtain ⟨o177, h178, hF⟩ := of_do hF
   replace h178 := sj h178
   refine TS.dp [] (fun e he => by cases he) mixed 19 [7, 8, 9, 10, 13, 168, 169, 170, 193] [0, 1, 2, 3, 4, 5] (st 289 [(7, pt 2 0), (8, accV 4 r138.1.length), (9, accV 5 r138.2.length), (10, iv (w64 p14)), (13, iv r5.1), (168, accV 3 r1.1.2.2.length), (169, iv (r1.1.2.2.length : Int)), (170, iv v153), (193, .bool ((w64 (o173 + o177)) != o169.2))]) [ab 5 e5 p2, ab 5 e5 p13, cl 24 [iv r1.1.1, iv r1.1.2.1, accV 3 r1.1.2.2.length], ab 57 e57 r1.1.2.2, ab 3 e3 r138.1, ab 3 e3 r138.2, .dead] ?_ ?_
   · refine QJ.rn (qs (st 289 [(7, pt 2 0), (8, accV 4 r138.1.length), (9, accV 5 r138.2.length), (10, iv (w64 p14)), (13, iv r5.1), (24, pt 6 0), (168, accV 3 r1.1.2.2.length), (169, iv (r1.1.2.2.length : Int)), (170, iv v153), (174, accV 4 r138.1.length), (175, pt 6 0), (176, iv o169.1), (177, pt 2 0), (178, iv r1.1.1)]) (H8_21 p2 p13 r1 r138 o169) [] []) 5 (QJ.o { val := iv (Int.tmod o169.1 r1.1.1) } (q_int (P := Try.prog) (op := .rem) (ty := 3) (ox := (.tmp 176)) (oy := (.tmp 178)) (k := .i64) (k' := .i64) (y := o169.1) (z := r1.1.1) (by kernel_rfl) (rem_ok hg171)) (QJ.o { val := .pointer (some ⟨4, 0 + (Int.toNat (Int.tmod o169.1 r1.1.1)) * 1, none⟩) } (q_ixAcc (P := Try.prog) (t := 30) (s := 1) (e := 3) 4 r138.1.length (by kernel_rfl) hg172 (by kernel_rfl) (by kernel_rfl)) (QJ.o { val := iv o173 } (q_n1a Try.prog (H8_21 p2 p13 r1 r138 o169) 3 4 (0 + (Int.toNat (Int.tmod o169.1 r1.1.1)) * 1) r138.1 e3 1 3 (Int.toNat (Int.tmod o169.1 r1.1.1)) 0 0 h174) (QJ.rn (qs (st 289 [(7, pt 2 0), (8, accV 4 r138.1.length), (9, accV 5 r138.2.length), (10, iv (w64 p14)), (13, iv r5.1), (24, pt 6 0), (168, accV 3 r1.1.2.2.length), (169, iv (r1.1.2.2.length : Int)), (170, iv v153), (174, accV 4 r138.1.length), (175, pt 6 0), (176, iv o169.1), (177, pt 2 0), (178, iv r1.1.1), (179, iv (Int.tmod o169.1 r1.1.1)), (180, .pointer (some ⟨4, 0 + (Int.toNat (Int.tmod o169.1 r1.1.1)) * 1, none⟩)), (181, iv o173), (182, accV 5 r138.2.length), (183, pt 6 0), (184, iv o169.1), (185, pt 2 1), (186, iv r1.1.2.1)]) (H8_21 p2 p13 r1 r138 o169) [] []) 5 (QJ.o { val := iv (Int.tmod o169.1 r1.1.2.1) } (q_int (P := Try.prog) (op := .rem) (ty := 3) (ox := (.tmp 184)) (oy := (.tmp 186)) (k := .i64) (k' := .i64) (y := o169.1) (z := r1.1.2.1) (by kernel_rfl) (rem_ok hg175)) (QJ.o { val := .pointer (some ⟨5, 0 + (Int.toNat (Int.tmod o169.1 r1.1.2.1)) * 1, none⟩) } (q_ixAcc (P := Try.prog) (t := 30) (s := 1) (e := 3) 5 r138.2.length (by kernel_rfl) hg176 (by kernel_rfl) (by kernel_rfl)) (QJ.o { val := iv o177 } (q_n1a Try.prog (H8_21 p2 p13 r1 r138 o169) 3 5 (0 + (Int.toNat (Int.tmod o169.1 r1.1.2.1)) * 1) r138.2 e3 1 3 (Int.toNat (Int.tmod o169.1 r1.1.2.1)) 0 0 h178) (QJ.rn (qs (st 289 [(7, pt 2 0), (8, accV 4 r138.1.length), (9, accV 5 r138.2.length), (10, iv (w64 p14)), (13, iv r5.1), (24, pt 6 0), (168, accV 3 r1.1.2.2.length), (169, iv (r1.1.2.2.length : Int)), (170, iv v153), (174, accV 4 r138.1.length), (175, pt 6 0), (176, iv o169.1), (177, pt 2 0), (178, iv r1.1.1), (179, iv (Int.tmod o169.1 r1.1.1)), (180, .pointer (some ⟨4, 0 + (Int.toNat (Int.tmod o169.1 r1.1.1)) * 1, none⟩)), (181, iv o173), (182, accV 5 r138.2.length), (183, pt 6 0), (184, iv o169.1), (185, pt 2 1), (186, iv r1.1.2.1), (187, iv (Int.tmod o169.1 r1.1.2.1)), (188, .pointer (some ⟨5, 0 + (Int.toNat (Int.tmod o169.1 r1.1.2.1)) * 1, none⟩)), (189, iv o177), (190, iv (w64 (o173 + o177))), (191, pt 6 1), (192, iv o169.2)]) (H8_21 p2 p13 r1 r138 o169) [] []) 3 ?_))))))))
     exact QJ.dn ⟨rfl, SJ.la⟩
   refine TS.cd (.tmp 193) ((w64 (o173 + o177)) != o169.2) (fun hc179 => ?_) (fun hc179 => ?_)
   · replace hF := of_pos hF hc179
     refine TS.sq (TS.rg (TI.rn 1 [6] [0, 1] (st 289 [(6, .bool false)]) (H8_34 p2 p13) (TI.dn (NX.sq (TS.rt (NX.bkR (NX.sqR ?_)))))))
     have hF := sj hF
     subst hF
     exact Rd.out (e := .ret) (by intro h; cases h) (And.intro rfl (Wk.an [] (.ac (.ac (.nil _))) [.bool false] (.fl .nil)))
   replace hF := of_neg hF hc179
   refine TS.sk (NX.bk (NX.sq (TS.rg (TI.ra 2 [7, 8, 9, 10, 13, 168, 169, 170] (st 289 [(7, pt 2 0), (8, accV 4 r138.1.length), (9, accV 5 r138.2.length), (10, iv (w64 p14)), (13, iv r5.1), (168, accV 3 r1.1.2.2.length), (169, iv (r1.1.2.2.length : Int)), (170, iv (w64 (v153 + 1)))]) (TI.dn ?_)))))
   exact Rd.again (a2 := (st 289 [(7, pt 2 0), (8, accV 4 r138.1.length), (9, accV 5 r138.2.length), (10, iv (w64 p14)), (13, iv r5.1), (168, accV 3 r1.1.2.2.length), (169, iv (r1.1.2.2.length : Int)), (170, iv (w64 (v153 + 1)))])) (h2 := (H8_25 p2 p13 r1 r138)) (Wk.an [2, 3, 4, 5] (.ac (.ac (.lt (.fl (.fl (.cons (Rn.acc (nl rfl) rfl) .nil))) (.ac (.ac (.ac (.nil _))))))) [pt 2 0, accV 4 r138.1.length, accV 5 r138.2.length, iv (w64 p14), iv r5.1, accV 3 r1.1.2.2.length, iv (r1.1.2.2.length : Int), iv (w64 (v153 + 1))] (.pp (.cons (Rn.acc (nl rfl) rfl) (.cons (Rn.acc (nl rfl) rfl) (.fl (.fl (.cons (Rn.acc (nl rfl) rfl) (.fl (.fl .nil))))))))) (ih (w64 (v153 + 1)) _ hF)
 replace hF := of_neg hF hc167
 refine TS.ex 4 (NX.sqX ?_)
 have hF := sj hF
 subst hF
 exact Rd.out (e := .exit 4) (by intro h; cases h) (And.intro rfl (Wk.an [2, 3, 4, 5] (.ac (.ac (.lt (.fl (.fl (.cons (Rn.acc (nl rfl) rfl) .nil))) (.ac (.ac (.ac (.nil _))))))) [pt 2 0, accV 4 r138.1.length, accV 5 r138.2.length, iv (w64 p14), iv r5.1] (.pp (.cons (Rn.acc (nl rfl) rfl) (.cons (Rn.acc (nl rfl) rfl) (.fl (.fl .nil)))))))
def P8l3 (p2 p13 : List Int) (p14 : Int) (r1 : (Int × Int × (List I2)) × (List Int) × (List Int)) (r5 : I2) (r138 : (List Int) × (List Int)) (r : Bool × (List I2)) : Post := fun e a h => e = .exit 6 ∧ Wk Try.prog 2 2 a h (st 289 [(7, pt 2 0), (8, accV 4 r138.1.length), (9, accV 5 r138.2.length), (10, iv (w64 p14)), (13, iv r5.1), (25, pt 6 0), (26, .bool r.1)]) [ab 5 e5 p2, ab 5 e5 p13, cl 24 [iv r1.1.1, iv r1.1.2.1, accV 3 r1.1.2.2.length], ab 57 e57 r1.1.2.2, ab 3 e3 r138.1, ab 3 e3 r138.2, cl 24 [iv r1.1.1, iv r1.1.2.1, accV 7 r.2.length], ab 57 e57 r.2]
theorem L8l3 (p2 p13 : List Int) (p14 : Int) (r1 : (Int × Int × (List I2)) × (List Int) × (List Int)) (r5 : I2) (r138 : (List Int) × (List Int)) (v199 : Bool) (v200 : Int) (v201 : List I2) (r : Bool × (List I2)) (hF : F8l3 p2 p13 p14 r1 r5 r138 v199 v200 v201 = some r) : TL Try.prog 2 2 c8.s2.s2.s2.s2.s2.s2.s2.s2.s2.s2.s2.s2.s2.s2.s2.s2.s1.s2.bd.bd (st 289 [(7, pt 2 0), (8, accV 4 r138.1.length), (9, accV 5 r138.2.length), (10, iv (w64 p14)), (13, iv r5.1), (25, pt 6 0), (26, .bool v199), (201, accV 3 r1.1.2.2.length), (202, iv (r1.1.2.2.length : Int)), (203, iv v200)]) (H8_15 p2 p13 r1 r138 v201) (P8l3 p2 p13 p14 r1 r5 r138 r) := by
 refine F8l3.partial_correctness p2 p13 p14 r1 r5 r138 (motive := fun v199 v200 v201 r => TL Try.prog 2 2 c8.s2.s2.s2.s2.s2.s2.s2.s2.s2.s2.s2.s2.s2.s2.s2.s2.s1.s2.bd.bd (st 289 [(7, pt 2 0), (8, accV 4 r138.1.length), (9, accV 5 r138.2.length), (10, iv (w64 p14)), (13, iv r5.1), (25, pt 6 0), (26, .bool v199), (201, accV 3 r1.1.2.2.length), (202, iv (r1.1.2.2.length : Int)), (203, iv v200)]) (H8_15 p2 p13 r1 r138 v201) (P8l3 p2 p13 p14 r1 r5 r138 r)) ?_ v199 v200 v201 r hF
 clear hF r v199 v200 v201
 intro again ih v199 v200 v201 r hF
 refine TL.round (TS.sq (TS.rg (TI.ra 1 [7, 8, 9, 10, 13, 25, 26, 201, 202, 203, 204] (st 289 [(7, pt 2 0), (8, accV 4 r138.1.length), (9, accV 5 r138.2.length), (10, iv (w64 p14)), (13, iv r5.1), (25, pt 6 0), (26, .bool v199), (201, accV 3 r1.1.2.2.length), (202, iv (r1.1.2.2.length : Int)), (203, iv v200), (204, .bool (decide (v200 < (r1.1.2.2.length : Int))))]) (TI.dn (NX.sq (TS.sq ?_))))))
 refine TS.cd (.tmp 204) (decide (v200 < (r1.1.2.2.length : Int))) (fun hc225 => ?_) (fun hc225 => ?_)
 · replace hF := of_pos hF hc225
   refine TS.sk (NX.sq (TS.sq (TS.bk 7 (TS.sq ?_))))
   obtain ⟨hg226, hF⟩ := of_guard hF
   obtain ⟨o227, h228, hF⟩ := of_do hF
   replace h228 := sj h228
   refine TS.rg (TI.o { val := .pointer (some ⟨3, 0 + (Int.toNat v200) * 2, none⟩) } (q_ixAcc (P := Try.prog) (t := 22) (s := 2) (e := 57) 3 r1.1.2.2.length (by kernel_rfl) hg226 (by kernel_rfl) (by kernel_rfl)) [7, 8, 9, 10, 13, 25, 26, 201, 202, 203, 205] [0, 1, 2, 3, 4, 5, 6, 7] (st 289 [(7, pt 2 0), (8, accV 4 r138.1.length), (9, accV 5 r138.2.length), (10, iv (w64 p14)), (13, iv r5.1), (25, pt 6 0), (26, .bool v199), (201, accV 3 r1.1.2.2.length), (202, iv (r1.1.2.2.length : Int)), (203, iv v200), (205, .pointer (some ⟨3, 0 + (Int.toNat v200) * 2, none⟩))]) (H8_15 p2 p13 r1 r138 v201) (TI.o { val := ag [iv o227.1, iv o227.2] } (q_nAa Try.prog (H8_15 p2 p13 r1 r138 v201) 57 3 (0 + (Int.toNat v200) * 2) r1.1.2.2 e57 2 57 (Int.toNat v200) (0, 0) h228) [7, 8, 9, 10, 13, 25, 26, 201, 202, 203, 206] [0, 1, 2, 3, 4, 5, 6, 7] (st 289 [(7, pt 2 0), (8, accV 4 r138.1.length), (9, accV 5 r138.2.length), (10, iv (w64 p14)), (13, iv r5.1), (25, pt 6 0), (26, .bool v199), (201, accV 3 r1.1.2.2.length), (202, iv (r1.1.2.2.length : Int)), (203, iv v200), (206, ag [iv o227.1, iv o227.2])]) (H8_15 p2 p13 r1 r138 v201) (TI.rn 2 [7, 8, 9, 10, 13, 25, 26, 28, 201, 202, 203] [0, 1, 2, 3, 4, 5, 6, 7, 8] (st 289 [(7, pt 2 0), (8, accV 4 r138.1.length), (9, accV 5 r138.2.length), (10, iv (w64 p14)), (13, iv r5.1), (25, pt 6 0), (26, .bool v199), (28, pt 8 0), (201, accV 3 r1.1.2.2.length), (202, iv (r1.1.2.2.length : Int)), (203, iv v200)]) (H8_11 p2 p13 r1 r138 v201 o227) (TI.dn (NX.sq (TS.sq (TS.sq ?_)))))))
   obtain ⟨m229, hm261, hF⟩ := of_do hF
   have hK : NX Try.prog 2 2 [.sq c8.s2.s2.s2.s2.s2.s2.s2.s2.s2.s2.s2.s2.s2.s2.s2.s2.s1.s2.bd.bd.s2.s2.s1.bd.s2.s1.s2, .sq c8.s2.s2.s2.s2.s2.s2.s2.s2.s2.s2.s2.s2.s2.s2.s2.s2.s1.s2.bd.bd.s2.s2.s1.bd.s2.s2, .bk 7, .sq c8.s2.s2.s2.s2.s2.s2.s2.s2.s2.s2.s2.s2.s2.s2.s2.s2.s1.s2.bd.bd.s2.s2.s2] (Rd Try.prog 2 2 c8.s2.s2.s2.s2.s2.s2.s2.s2.s2.s2.s2.s2.s2.s2.s2.s2.s1.s2.bd.bd (P8l3 p2 p13 p14 r1 r5 r138 r)) .normal (st 289 [(7, pt 2 0), (8, accV 4 r138.1.length), (9, accV 5 r138.2.length), (10, iv (w64 p14)), (13, iv r5.1), (25, pt 6 0), (26, .bool m229.1), (28, pt 8 0), (201, accV 3 r1.1.2.2.length), (202, iv (r1.1.2.2.length : Int)), (203, iv v200), (214, .bool m229.2)]) (H8_11 p2 p13 r1 r138 v201 o227) := by
    refine NX.sq ?_
    obtain ⟨m246, hm247, hF⟩ := of_do hF
    have hK : NX Try.prog 2 2 [.sq c8.s2.s2.s2.s2.s2.s2.s2.s2.s2.s2.s2.s2.s2.s2.s2.s2.s1.s2.bd.bd.s2.s2.s1.bd.s2.s2, .bk 7, .sq c8.s2.s2.s2.s2.s2.s2.s2.s2.s2.s2.s2.s2.s2.s2.s2.s2.s1.s2.bd.bd.s2.s2.s2] (Rd Try.prog 2 2 c8.s2.s2.s2.s2.s2.s2.s2.s2.s2.s2.s2.s2.s2.s2.s2.s2.s1.s2.bd.bd (P8l3 p2 p13 p14 r1 r5 r138 r)) .normal (st 289 [(7, pt 2 0), (8, accV 4 r138.1.length), (9, accV 5 r138.2.length), (10, iv (w64 p14)), (13, iv r5.1), (25, pt 6 0), (26, .bool m246.1), (28, pt 8 0), (201, accV 3 r1.1.2.2.length), (202, iv (r1.1.2.2.length : Int)), (203, iv v200)]) [ab 5 e5 p2, ab 5 e5 p13, cl 24 [iv r1.1.1, iv r1.1.2.1, accV 3 r1.1.2.2.length], ab 57 e57 r1.1.2.2, ab 3 e3 r138.1, ab 3 e3 r138.2, cl 24 [iv r1.1.1, iv r1.1.2.1, accV 7 m246.2.length], ab 57 e57 m246.2, cl 57 [iv o227.1, iv o227.2]] := by
     refine NX.sq ?_
     obtain ⟨hg248, hF⟩ := of_guard hF
     refine TS.rg (TI.rn 4 [7, 8, 9, 10, 13, 25, 26, 201, 202, 203, 238, 240] [0, 1, 2, 3, 4, 5, 6, 7, 9] (st 289 [(7, pt 2 0), (8, accV 4 r138.1.length), (9, accV 5 r138.2.length), (10, iv (w64 p14)), (13, iv r5.1), (25, pt 6 0), (26, .bool m246.1), (201, accV 3 r1.1.2.2.length), (202, iv (r1.1.2.2.length : Int)), (203, iv v200), (238, accV 7 m246.2.length), (240, sv 9 1 1)]) [ab 5 e5 p2, ab 5 e5 p13, cl 24 [iv r1.1.1, iv r1.1.2.1, accV 3 r1.1.2.2.length], ab 57 e57 r1.1.2.2, ab 3 e3 r138.1, ab 3 e3 r138.2, cl 24 [iv r1.1.1, iv r1.1.2.1, accV 7 m246.2.length], ab 57 e57 m246.2, .dead, cl 57 [iv o227.1, iv o227.2]] (TI.acc (l := m246.2) (b := 7) (ts := #[22, 22]) (e := 57) (bytes := 16) (z := ag [iv 0, iv 0]) (y := sv 9 1 1) (ys := [(o227.1, o227.2)]) (xs := List.flatMap e57 ([(o227.1, o227.2)])) (m := 1) (s := 2) (enc := e57) (by kernel_rfl) (by kernel_rfl) (by decide) (by kernel_rfl) (by kernel_rfl) (by kernel_rfl) (by kernel_rfl) (by kernel_rfl) (by kernel_rfl) (by kernel_rfl) (by kernel_rfl) (fun _ => rfl) rfl rfl (by omega) [7, 8, 9, 10, 13, 25, 26, 201, 202, 203, 241] [0, 1, 2, 3, 4, 5, 6, 10] (a2 := (st 289 [(7, pt 2 0), (8, accV 4 r138.1.length), (9, accV 5 r138.2.length), (10, iv (w64 p14)), (13, iv r5.1), (25, pt 6 0), (26, .bool m246.1), (201, accV 3 r1.1.2.2.length), (202, iv (r1.1.2.2.length : Int)), (203, iv v200), (241, sv 10 (List.length (m246.2 ++ [(o227.1, o227.2)])) UNK)])) (h2 := [ab 5 e5 p2, ab 5 e5 p13, cl 24 [iv r1.1.1, iv r1.1.2.1, accV 3 r1.1.2.2.length], ab 57 e57 r1.1.2.2, ab 3 e3 r138.1, ab 3 e3 r138.2, cl 24 [iv r1.1.1, iv r1.1.2.1, accV 7 m246.2.length], .dead, .dead, .dead, .cells 57 (List.flatMap e57 (m246.2 ++ [(o227.1, o227.2)]))]) (by kernel_rfl) (TI.rn 2 [7, 8, 9, 10, 13, 25, 26, 201, 202, 203] [0, 1, 2, 3, 4, 5, 6, 10] (st 289 [(7, pt 2 0), (8, accV 4 r138.1.length), (9, accV 5 r138.2.length), (10, iv (w64 p14)), (13, iv r5.1), (25, pt 6 0), (26, .bool m246.1), (201, accV 3 r1.1.2.2.length), (202, iv (r1.1.2.2.length : Int)), (203, iv v200)]) [ab 5 e5 p2, ab 5 e5 p13, cl 24 [iv r1.1.1, iv r1.1.2.1, accV 3 r1.1.2.2.length], ab 57 e57 r1.1.2.2, ab 3 e3 r138.1, ab 3 e3 r138.2, cl 24 [iv r1.1.1, iv r1.1.2.1, sv 10 (List.length (m246.2 ++ [(o227.1, o227.2)])) UNK], .dead, .dead, .dead, .cells 57 (List.flatMap e57 (m246.2 ++ [(o227.1, o227.2)]))] (TI.dn (NX.bk (NX.sq (TS.rg (TI.ra 2 [7, 8, 9, 10, 13, 25, 26, 201, 202, 203] (st 289 [(7, pt 2 0), (8, accV 4 r138.1.length), (9, accV 5 r138.2.length), (10, iv (w64 p14)), (13, iv r5.1), (25, pt 6 0), (26, .bool m246.1), (201, accV 3 r1.1.2.2.length), (202, iv (r1.1.2.2.length : Int)), (203, iv (w64 (v200 + 1)))]) ?_))))))))
     refine TI.dn ?_
     exact Rd.again (a2 := (st 289 [(7, pt 2 0), (8, accV 4 r138.1.length), (9, accV 5 r138.2.length), (10, iv (w64 p14)), (13, iv r5.1), (25, pt 6 0), (26, .bool m246.1), (201, accV 3 r1.1.2.2.length), (202, iv (r1.1.2.2.length : Int)), (203, iv (w64 (v200 + 1)))])) (h2 := [ab 5 e5 p2, ab 5 e5 p13, cl 24 [iv r1.1.1, iv r1.1.2.1, accV 3 r1.1.2.2.length], ab 57 e57 r1.1.2.2, ab 3 e3 r138.1, ab 3 e3 r138.2, cl 24 [iv r1.1.1, iv r1.1.2.1, accV 7 (List.length (m246.2 ++ [(o227.1, o227.2)]))], accB 57 (List.length (m246.2 ++ [(o227.1, o227.2)])) (List.flatMap e57 (m246.2 ++ [(o227.1, o227.2)]))]) (Wk.an [2, 3, 4, 5, 6, 10] (.ac (.ac (.lt (.fl (.fl (.cons (Rn.acc (nl rfl) rfl) .nil))) (.ac (.ac (.ac (.lt (.fl (.fl (.cons (Rn.accU (nl rfl) rfl (by simp)) .nil))) (.cons (At.accU (by kernel_rfl) rfl (fun _ => rfl)) (.nil _))))))))) [pt 2 0, accV 4 r138.1.length, accV 5 r138.2.length, iv (w64 p14), iv r5.1, pt 6 0, .bool m246.1, accV 3 r1.1.2.2.length, iv (r1.1.2.2.length : Int), iv (w64 (v200 + 1))] (.pp (.cons (Rn.acc (nl rfl) rfl) (.cons (Rn.acc (nl rfl) rfl) (.fl (.fl (.pp (.fl (.cons (Rn.acc (nl rfl) rfl) (.fl (.fl .nil))))))))))) (ih m246.1 (w64 (v200 + 1)) (m246.2 ++ [(o227.1, o227.2)]) _ hF)
    clear hF
    have hF := hm247
    clear hm247
    refine TS.start ?_
    refine TS.cd (.tmp 214) m229.2 (fun hc249 => ?_) (fun hc249 => ?_)
    · replace hF := of_pos hF hc249
      refine TS.sq ?_
      obtain ⟨hg250, hF⟩ := of_guardn hF
      obtain ⟨hg251, hF⟩ := of_guard hF
      obtain ⟨o252, h253, hF⟩ := of_do hF
      replace h253 := sj h253
      obtain ⟨hg254, hF⟩ := of_guardn hF
      obtain ⟨hg255, hF⟩ := of_guard hF
      obtain ⟨o256, h257, hF⟩ := of_do hF
      replace h257 := sj h257
      revert hF
      generalize v201 = ly258
      intro hF
      cases ly258 with
      | nil =>
       obtain ⟨hg259, hF⟩ := of_guard hF
       refine TS.dp [] (fun e he => by cases he) mixed 20 [7, 8, 9, 10, 13, 25, 28, 201, 202, 203] [0, 1, 2, 3, 4, 5, 6, 8, 10] (st 289 [(7, pt 2 0), (8, accV 4 r138.1.length), (9, accV 5 r138.2.length), (10, iv (w64 p14)), (13, iv r5.1), (25, pt 6 0), (28, pt 8 0), (201, accV 3 r1.1.2.2.length), (202, iv (r1.1.2.2.length : Int)), (203, iv v200)]) [ab 5 e5 p2, ab 5 e5 p13, cl 24 [iv r1.1.1, iv r1.1.2.1, accV 3 r1.1.2.2.length], ab 57 e57 r1.1.2.2, ab 3 e3 r138.1, ab 3 e3 r138.2, cl 24 [iv r1.1.1, iv r1.1.2.1, sv 10 (List.length [(w64 p14, w64 (o252 + o256))]) UNK], .dead, cl 57 [iv o227.1, iv o227.2], .dead, .cells 57 (List.flatMap e57 ([(w64 p14, w64 (o252 + o256))]))] ?_ ?_
       · refine QJ.rn (qs (st 289 [(7, pt 2 0), (8, accV 4 r138.1.length), (9, accV 5 r138.2.length), (10, iv (w64 p14)), (13, iv r5.1), (25, pt 6 0), (26, .bool m229.1), (28, pt 8 0), (201, accV 3 r1.1.2.2.length), (202, iv (r1.1.2.2.length : Int)), (203, iv v200), (214, .bool m229.2), (215, pt 6 2), (216, .slice none 0 0), (217, iv (w64 p14)), (218, accV 4 r138.1.length), (219, iv (w64 p14)), (220, pt 2 0), (221, iv r1.1.1)]) (H8_17 p2 p13 r1 r138 o227) [] []) 7 (QJ.o { val := iv (Int.tmod (w64 p14) r1.1.1) } (q_int (P := Try.prog) (op := .rem) (ty := 3) (ox := (.tmp 219)) (oy := (.tmp 221)) (k := .i64) (k' := .i64) (y := w64 p14) (z := r1.1.1) (by kernel_rfl) (rem_ok hg250)) (QJ.o { val := .pointer (some ⟨4, 0 + (Int.toNat (Int.tmod (w64 p14) r1.1.1)) * 1, none⟩) } (q_ixAcc (P := Try.prog) (t := 30) (s := 1) (e := 3) 4 r138.1.length (by kernel_rfl) hg251 (by kernel_rfl) (by kernel_rfl)) (QJ.o { val := iv o252 } (q_n1a Try.prog (H8_17 p2 p13 r1 r138 o227) 3 4 (0 + (Int.toNat (Int.tmod (w64 p14) r1.1.1)) * 1) r138.1 e3 1 3 (Int.toNat (Int.tmod (w64 p14) r1.1.1)) 0 0 h253) (QJ.rn (qs (st 289 [(7, pt 2 0), (8, accV 4 r138.1.length), (9, accV 5 r138.2.length), (10, iv (w64 p14)), (13, iv r5.1), (25, pt 6 0), (26, .bool m229.1), (28, pt 8 0), (201, accV 3 r1.1.2.2.length), (202, iv (r1.1.2.2.length : Int)), (203, iv v200), (214, .bool m229.2), (215, pt 6 2), (216, .slice none 0 0), (217, iv (w64 p14)), (218, accV 4 r138.1.length), (219, iv (w64 p14)), (220, pt 2 0), (221, iv r1.1.1), (222, iv (Int.tmod (w64 p14) r1.1.1)), (223, .pointer (some ⟨4, 0 + (Int.toNat (Int.tmod (w64 p14) r1.1.1)) * 1, none⟩)), (224, iv o252), (225, accV 5 r138.2.length), (226, iv (w64 p14)), (227, pt 2 1), (228, iv r1.1.2.1)]) (H8_17 p2 p13 r1 r138 o227) [] []) 4 (QJ.o { val := iv (Int.tmod (w64 p14) r1.1.2.1) } (q_int (P := Try.prog) (op := .rem) (ty := 3) (ox := (.tmp 226)) (oy := (.tmp 228)) (k := .i64) (k' := .i64) (y := w64 p14) (z := r1.1.2.1) (by kernel_rfl) (rem_ok hg254)) (QJ.o { val := .pointer (some ⟨5, 0 + (Int.toNat (Int.tmod (w64 p14) r1.1.2.1)) * 1, none⟩) } (q_ixAcc (P := Try.prog) (t := 30) (s := 1) (e := 3) 5 r138.2.length (by kernel_rfl) hg255 (by kernel_rfl) (by kernel_rfl)) (QJ.o { val := iv o256 } (q_n1a Try.prog (H8_17 p2 p13 r1 r138 o227) 3 5 (0 + (Int.toNat (Int.tmod (w64 p14) r1.1.2.1)) * 1) r138.2 e3 1 3 (Int.toNat (Int.tmod (w64 p14) r1.1.2.1)) 0 0 h257) (QJ.rn (qs (st 289 [(7, pt 2 0), (8, accV 4 r138.1.length), (9, accV 5 r138.2.length), (10, iv (w64 p14)), (13, iv r5.1), (25, pt 6 0), (26, .bool m229.1), (28, pt 8 0), (201, accV 3 r1.1.2.2.length), (202, iv (r1.1.2.2.length : Int)), (203, iv v200), (214, .bool m229.2), (215, pt 6 2), (216, .slice none 0 0), (217, iv (w64 p14)), (218, accV 4 r138.1.length), (219, iv (w64 p14)), (220, pt 2 0), (221, iv r1.1.1), (222, iv (Int.tmod (w64 p14) r1.1.1)), (223, .pointer (some ⟨4, 0 + (Int.toNat (Int.tmod (w64 p14) r1.1.1)) * 1, none⟩)), (224, iv o252), (225, accV 5 r138.2.length), (226, iv (w64 p14)), (227, pt 2 1), (228, iv r1.1.2.1), (229, iv (Int.tmod (w64 p14) r1.1.2.1)), (230, .pointer (some ⟨5, 0 + (Int.toNat (Int.tmod (w64 p14) r1.1.2.1)) * 1, none⟩)), (231, iv o256), (232, iv (w64 (o252 + o256))), (233, ag [iv (w64 p14), iv (w64 (o252 + o256))]), (234, sv 9 1 1)]) (H8_13 p2 p13 r1 r138 o227 p14 o252 o256) [(19, 9, 10)] []) 3 ?_))))))))
         exact QJ.dn ⟨rfl, (SJ.o { val := sv 10 (List.length [(w64 p14, w64 (o252 + o256))]) UNK, new := [.cells 57 (List.flatMap e57 ([(w64 p14, w64 (o252 + o256))]))] } (q_appN (P := Try.prog) (base := 2) (hp := (H8_13 p2 p13 r1 r138 o227 p14 o252 o256)) (n := 10) (ts := #[22, 22]) (e := 57) (bytes := 16) (z := ag [iv 0, iv 0]) (y := sv 9 1 1) (ys := [(w64 p14, w64 (o252 + o256))]) (xs := List.flatMap e57 ([(w64 p14, w64 (o252 + o256))])) (m := 1) (s := 2) (enc := e57) (by kernel_rfl) (by kernel_rfl) (by kernel_rfl) (by kernel_rfl) (by kernel_rfl) (by kernel_rfl) (by kernel_rfl) (by kernel_rfl) rfl rfl (by omega)) SJ.la)⟩
       refine TS.rg (TI.ra 1 [7, 8, 9, 10, 13, 25, 26, 28, 201, 202, 203] (S8_29 r138 p14 r5 r1 v200) (TI.dn ?_))
       have hF := sj hF
       subst hF
       exact TS.weak (by exact (Wk.an [2, 3, 4, 5, 6, 10, 8] (.ac (.ac (.lt (.fl (.fl (.cons (Rn.acc (nl rfl) rfl) .nil))) (.ac (.ac (.ac (.lt (.fl (.fl (.cons (Rn.accU (nl rfl) rfl (by simp)) .nil))) (.cons (At.accU (by kernel_rfl) rfl (fun _ => rfl)) (.lt (.fl (.fl .nil)) (.nil _)))))))))) [pt 2 0, accV 4 r138.1.length, accV 5 r138.2.length, iv (w64 p14), iv r5.1, pt 6 0, .bool true, pt 8 0, accV 3 r1.1.2.2.length, iv (r1.1.2.2.length : Int), iv v200] (.pp (.cons (Rn.acc (nl rfl) rfl) (.cons (Rn.acc (nl rfl) rfl) (.fl (.fl (.pp (.fl (.pp (.cons (Rn.acc (nl rfl) rfl) (.fl (.fl .nil))))))))))))) hK
      | cons y258 y258s =>
       obtain ⟨hg260, hF⟩ := of_guard hF
       refine TS.dp [] (fun e he => by cases he) mixed 20 [7, 8, 9, 10, 13, 25, 28, 201, 202, 203] [0, 1, 2, 3, 4, 5, 6, 8, 10] (st 289 [(7, pt 2 0), (8, accV 4 r138.1.length), (9, accV 5 r138.2.length), (10, iv (w64 p14)), (13, iv r5.1), (25, pt 6 0), (28, pt 8 0), (201, accV 3 r1.1.2.2.length), (202, iv (r1.1.2.2.length : Int)), (203, iv v200)]) [ab 5 e5 p2, ab 5 e5 p13, cl 24 [iv r1.1.1, iv r1.1.2.1, accV 3 r1.1.2.2.length], ab 57 e57 r1.1.2.2, ab 3 e3 r138.1, ab 3 e3 r138.2, cl 24 [iv r1.1.1, iv r1.1.2.1, sv 10 (List.length ((y258 :: y258s) ++ [(w64 p14, w64 (o252 + o256))])) UNK], .dead, cl 57 [iv o227.1, iv o227.2], .dead, .cells 57 (List.flatMap e57 ((y258 :: y258s) ++ [(w64 p14, w64 (o252 + o256))]))] ?_ ?_
       · refine QJ.rn (qs (st 289 [(7, pt 2 0), (8, accV 4 r138.1.length), (9, accV 5 r138.2.length), (10, iv (w64 p14)), (13, iv r5.1), (25, pt 6 0), (26, .bool m229.1), (28, pt 8 0), (201, accV 3 r1.1.2.2.length), (202, iv (r1.1.2.2.length : Int)), (203, iv v200), (214, .bool m229.2), (215, pt 6 2), (216, sv 7 (List.length (y258 :: y258s)) UNK), (217, iv (w64 p14)), (218, accV 4 r138.1.length), (219, iv (w64 p14)), (220, pt 2 0), (221, iv r1.1.1)]) (H8_10 p2 p13 r1 r138 y258 y258s o227) [] []) 7 (QJ.o { val := iv (Int.tmod (w64 p14) r1.1.1) } (q_int (P := Try.prog) (op := .rem) (ty := 3) (ox := (.tmp 219)) (oy := (.tmp 221)) (k := .i64) (k' := .i64) (y := w64 p14) (z := r1.1.1) (by kernel_rfl) (rem_ok hg250)) (QJ.o { val := .pointer (some ⟨4, 0 + (Int.toNat (Int.tmod (w64 p14) r1.1.1)) * 1, none⟩) } (q_ixAcc (P := Try.prog) (t := 30) (s := 1) (e := 3) 4 r138.1.length (by kernel_rfl) hg251 (by kernel_rfl) (by kernel_rfl)) (QJ.o { val := iv o252 } (q_n1a Try.prog (H8_10 p2 p13 r1 r138 y258 y258s o227) 3 4 (0 + (Int.toNat (Int.tmod (w64 p14) r1.1.1)) * 1) r138.1 e3 1 3 (Int.toNat (Int.tmod (w64 p14) r1.1.1)) 0 0 h253) (QJ.rn (qs (st 289 [(7, pt 2 0), (8, accV 4 r138.1.length), (9, accV 5 r138.2.length), (10, iv (w64 p14)), (13, iv r5.1), (25, pt 6 0), (26, .bool m229.1), (28, pt 8 0), (201, accV 3 r1.1.2.2.length), (202, iv (r1.1.2.2.length : Int)), (203, iv v200), (214, .bool m229.2), (215, pt 6 2), (216, sv 7 (List.length (y258 :: y258s)) UNK), (217, iv (w64 p14)), (218, accV 4 r138.1.length), (219, iv (w64 p14)), (220, pt 2 0), (221, iv r1.1.1), (222, iv (Int.tmod (w64 p14) r1.1.1)), (223, .pointer (some ⟨4, 0 + (Int.toNat (Int.tmod (w64 p14) r1.1.1)) * 1, none⟩)), (224, iv o252), (225, accV 5 r138.2.length), (226, iv (w64 p14)), (227, pt 2 1), (228, iv r1.1.2.1)]) (H8_10 p2 p13 r1 r138 y258 y258s o227) [] []) 4 (QJ.o { val := iv (Int.tmod (w64 p14) r1.1.2.1) } (q_int (P := Try.prog) (op := .rem) (ty := 3) (ox := (.tmp 226)) (oy := (.tmp 228)) (k := .i64) (k' := .i64) (y := w64 p14) (z := r1.1.2.1) (by kernel_rfl) (rem_ok hg254)) (QJ.o { val := .pointer (some ⟨5, 0 + (Int.toNat (Int.tmod (w64 p14) r1.1.2.1)) * 1, none⟩) } (q_ixAcc (P := Try.prog) (t := 30) (s := 1) (e := 3) 5 r138.2.length (by kernel_rfl) hg255 (by kernel_rfl) (by kernel_rfl)) (QJ.o { val := iv o256 } (q_n1a Try.prog (H8_10 p2 p13 r1 r138 y258 y258s o227) 3 5 (0 + (Int.toNat (Int.tmod (w64 p14) r1.1.2.1)) * 1) r138.2 e3 1 3 (Int.toNat (Int.tmod (w64 p14) r1.1.2.1)) 0 0 h257) (QJ.rn (qs (st 289 [(7, pt 2 0), (8, accV 4 r138.1.length), (9, accV 5 r138.2.length), (10, iv (w64 p14)), (13, iv r5.1), (25, pt 6 0), (26, .bool m229.1), (28, pt 8 0), (201, accV 3 r1.1.2.2.length), (202, iv (r1.1.2.2.length : Int)), (203, iv v200), (214, .bool m229.2), (215, pt 6 2), (216, sv 7 (List.length (y258 :: y258s)) UNK), (217, iv (w64 p14)), (218, accV 4 r138.1.length), (219, iv (w64 p14)), (220, pt 2 0), (221, iv r1.1.1), (222, iv (Int.tmod (w64 p14) r1.1.1)), (223, .pointer (some ⟨4, 0 + (Int.toNat (Int.tmod (w64 p14) r1.1.1)) * 1, none⟩)), (224, iv o252), (225, accV 5 r138.2.length), (226, iv (w64 p14)), (227, pt 2 1), (228, iv r1.1.2.1), (229, iv (Int.tmod (w64 p14) r1.1.2.1)), (230, .pointer (some ⟨5, 0 + (Int.toNat (Int.tmod (w64 p14) r1.1.2.1)) * 1, none⟩)), (231, iv o256), (232, iv (w64 (o252 + o256))), (233, ag [iv (w64 p14), iv (w64 (o252 + o256))]), (234, sv 9 1 1)]) (H8_8 p2 p13 r1 r138 y258 y258s o227 p14 o252 o256) [(19, 9, 10)] []) 3 ?_))))))))
         exact QJ.dn ⟨rfl, (SJ.o { val := sv 10 (List.length ((y258 :: y258s) ++ [(w64 p14, w64 (o252 + o256))])) UNK, new := [.cells 57 (List.flatMap e57 ((y258 :: y258s) ++ [(w64 p14, w64 (o252 + o256))]))], upd := some (7, .dead) } (q_appU (P := Try.prog) (base := 2) (hp := (H8_8 p2 p13 r1 r138 y258 y258s o227 p14 o252 o256)) (n := 10) (l := (y258 :: y258s)) (b := 7) (ts := #[22, 22]) (e := 57) (bytes := 16) (z := ag [iv 0, iv 0]) (y := sv 9 1 1) (ys := [(w64 p14, w64 (o252 + o256))]) (xs := List.flatMap e57 ([(w64 p14, w64 (o252 + o256))])) (m := 1) (s := 2) (enc := e57) (by kernel_rfl) (by kernel_rfl) (by decide) (by kernel_rfl) (by kernel_rfl) (by kernel_rfl) (by kernel_rfl) (by kernel_rfl) (by kernel_rfl) (by kernel_rfl) (by kernel_rfl) (fun _ => rfl) rfl rfl (by omega)) SJ.la)⟩
       refine TS.rg (TI.ra 1 [7, 8, 9, 10, 13, 25, 26, 28, 201, 202, 203] (S8_29 r138 p14 r5 r1 v200) (TI.dn ?_))
       have hF := sj hF
       subst hF
       exact TS.weak (by exact (Wk.an [2, 3, 4, 5, 6, 10, 8] (.ac (.ac (.lt (.fl (.fl (.cons (Rn.acc (nl rfl) rfl) .nil))) (.ac (.ac (.ac (.lt (.fl (.fl (.cons (Rn.accU (nl rfl) rfl (by simp)) .nil))) (.cons (At.accU (by kernel_rfl) rfl (fun _ => rfl)) (.lt (.fl (.fl .nil)) (.nil _)))))))))) [pt 2 0, accV 4 r138.1.length, accV 5 r138.2.length, iv (w64 p14), iv r5.1, pt 6 0, .bool true, pt 8 0, accV 3 r1.1.2.2.length, iv (r1.1.2.2.length : Int), iv v200] (.pp (.cons (Rn.acc (nl rfl) rfl) (.cons (Rn.acc (nl rfl) rfl) (.fl (.fl (.pp (.fl (.pp (.cons (Rn.acc (nl rfl) rfl) (.fl (.fl .nil))))))))))))) hK
    replace hF := of_neg hF hc249
    refine TS.sk ?_
    have hF := sj hF
    subst hF
    exact TS.weak (by exact (Wk.an [2, 3, 4, 5, 6, 7, 8] (.ac (.ac (.lt (.fl (.fl (.cons (Rn.acc (nl rfl) rfl) .nil))) (.ac (.ac (.ac (.lt (.fl (.fl (.cons (Rn.acc (nl rfl) rfl) .nil))) (.ac (.lt (.fl (.fl .nil)) (.nil _)))))))))) [pt 2 0, accV 4 r138.1.length, accV 5 r138.2.length, iv (w64 p14), iv r5.1, pt 6 0, .bool m229.1, pt 8 0, accV 3 r1.1.2.2.length, iv (r1.1.2.2.length : Int), iv v200] (.pp (.cons (Rn.acc (nl rfl) rfl) (.cons (Rn.acc (nl rfl) rfl) (.fl (.fl (.pp (.fl (.pp (.cons (Rn.acc (nl rfl) rfl) (.fl (.fl .nil))))))))))))) hK
   cases v199 with
   | true =>
    replace hm261 := of_pos hm261 rfl
    have hm261 := sj hm261
    subst hm261
    exact TS.rg (TI.ra 8 [7, 8, 9, 10, 13, 25, 26, 28, 201, 202, 203, 214] (st 289 [(7, pt 2 0), (8, accV 4 r138.1.length), (9, accV 5 r138.2.length), (10, iv (w64 p14)), (13, iv r5.1), (25, pt 6 0), (26, .bool true), (28, pt 8 0), (201, accV 3 r1.1.2.2.length), (202, iv (r1.1.2.2.length : Int)), (203, iv v200), (214, .bool false)]) (TI.dn hK))
   | false =>
    replace hm261 := of_neg hm261 rfl
    have hm261 := sj hm261
    subst hm261
    exact TS.rg (TI.ra 8 [7, 8, 9, 10, 13, 25, 26, 28, 201, 202, 203, 214] (st 289 [(7, pt 2 0), (8, accV 4 r138.1.length), (9, accV 5 r138.2.length), (10, iv (w64 p14)), (13, iv r5.1), (25, pt 6 0), (26, .bool false), (28, pt 8 0), (201, accV 3 r1.1.2.2.length), (202, iv (r1.1.2.2.length : Int)), (203, iv v200), (214, .bool (decide (o227.1 > (w64 p14))))]) (TI.dn hK))
 replace hF := of_neg hF hc225
 refine TS.ex 6 (NX.sqX ?_)
 have hF := sj hF
 subst hF
 exact Rd.out (e := .exit 6) (by intro h; cases h) (And.intro rfl (Wk.an [2, 3, 4, 5, 6, 7] (.ac (.ac (.lt (.fl (.fl (.cons (Rn.acc (nl rfl) rfl) .nil))) (.ac (.ac (.ac (.lt (.fl (.fl (.cons (Rn.acc (nl rfl) rfl) .nil))) (.ac (.nil _))))))))) [pt 2 0, accV 4 r138.1.length, accV 5 r138.2.length, iv (w64 p14), iv r5.1, pt 6 0, .bool v199] (.pp (.cons (Rn.acc (nl rfl) rfl) (.cons (Rn.acc (nl rfl) rfl) (.fl (.fl (.pp (.fl .nil)))))))))
theorem B8 (p0 p1 : Int) (p2 : List Int) (p3 p4 p5 p6 p7 p8 p9 p10 p11 p12 : Int) (p13 : List Int) (p14 p15 : Int) (r : Bool) (hF : F8 p0 p1 p2 p3 p4 p5 p6 p7 p8 p9 p10 p11 p12 p13 p14 p15 = some r) : TS Try.prog 2 2 c8 (st 289 [(0, ag [.int .u8 p0, .int .u8 p1, sv 0 p2.length ANY, .int .u8 p3, .int .u8 p4, .int .u8 p5, .int .u8 p6, .int .u8 p7, .int .u8 p8, .int .u8 p9, .int .u8 p10, .int .u8 p11, .int .u8 p12, sv 1 p13.length ANY]), (1, .int .u8 p14), (2, .int .u8 p15)]) (H8_37 p2 p13) (NX Try.prog 2 2 [] (FinP Try.prog Try.f8 2 (V8 2 r) (N8 2 r))) := by
 unfold F8 at hF
 refine TS.sq (TS.rg (TI.rn 2 [1, 2, 3] [0, 1, 2] (st 289 [(1, .int .u8 p14), (2, .int .u8 p15), (3, pt 2 0)]) [ab 5 e5 p2, ab 5 e5 p13, cl 53 [.int .u8 p0, .int .u8 p1, sv 0 p2.length ANY, .int .u8 p3, .int .u8 p4, .int .u8 p5, .int .u8 p6, .int .u8 p7, .int .u8 p8, .int .u8 p9, .int .u8 p10, .int .u8 p11, .int .u8 p12, sv 1 p13.length ANY]] (TI.dn (NX.sq (TS.sq ?_)))))
 obtain ⟨r1, h2, hF⟩ := of_do hF
 refine TS.rg (TI.rn 1 [1, 2, 31] [0, 1] (st 289 [(1, .int .u8 p14), (2, .int .u8 p15), (31, ag [.int .u8 p0, .int .u8 p1, sv 0 p2.length ANY, .int .u8 p3, .int .u8 p4, .int .u8 p5, .int .u8 p6, .int .u8 p7, .int .u8 p8, .int .u8 p9, .int .u8 p10, .int .u8 p11, .int .u8 p12, sv 1 p13.length ANY])]) [ab 5 e5 p2, ab 5 e5 p13, .dead] (TI.cp 36 [ag [.int .u8 p0, .int .u8 p1, sv 0 p2.length ANY, .int .u8 p3, .int .u8 p4, .int .u8 p5, .int .u8 p6, .int .u8 p7, .int .u8 p8, .int .u8 p9, .int .u8 p10, .int .u8 p11, .int .u8 p12, sv 1 p13.length ANY]] (.tuple ⟨[ag [iv r1.1.1, iv r1.1.2.1, accV 3 r1.1.2.2.length], accV 4 r1.2.1.length, accV 5 r1.2.2.length]⟩) [ab 57 e57 r1.1.2.2, ab 3 e3 r1.2.1, ab 3 e3 r1.2.2] (PureSim.ren (hc := (H8_37 p2 p13)) (fun i => List.getD [(0, 0), (1, 0)] i (0, 0)) (C36 _ _ _ _ _ _ _ _ _ _ _ _ _ _ _ h2) (.ac (.ac (.nil _))) (.cons (Rn.agg' (.fl (.fl (.cons (Rn.any _ _ _ _ _ _ (nl rfl) rfl rfl (by decide)) (.fl (.fl (.fl (.fl (.fl (.fl (.fl (.fl (.fl (.fl (.cons (Rn.any _ _ _ _ _ _ (nl rfl) rfl rfl (by decide)) .nil))))))))))))))) .nil) (Rn.tuple' (.cons (Rn.agg' (.fl (.fl (.cons (Rn.acc (i' := 3) (nl rfl) rfl) .nil)))) (.cons (Rn.acc (i' := 4) (nl rfl) rfl) (.cons (Rn.acc (i' := 5) (nl rfl) rfl) .nil)))) (newflat_cons (accB_flat (fun _ => rfl)) (newflat_cons (accB_flat (fun _ => rfl)) (newflat_cons (accB_flat (fun _ => rfl)) newflat_nil)))) (TI.rn 8 [1, 2, 7, 8, 9] [0, 1, 3, 4, 5, 6] (st 289 [(1, .int .u8 p14), (2, .int .u8 p15), (7, pt 6 0), (8, accV 4 r1.2.1.length), (9, accV 5 r1.2.2.length)]) [ab 5 e5 p2, ab 5 e5 p13, .dead, ab 57 e57 r1.1.2.2, ab 3 e3 r1.2.1, ab 3 e3 r1.2.2, cl 24 [iv r1.1.1, iv r1.1.2.1, accV 3 r1.1.2.2.length]] (TI.dn (NX.sq (TS.sq (TS.rg (TI.ra 3 [2, 7, 8, 9, 10] (st 289 [(2, .int .u8 p15), (7, pt 6 0), (8, accV 4 r1.2.1.length), (9, accV 5 r1.2.2.length), (10, iv (w64 p14))]) ?_))))))))
 refine TI.dn (NX.sq (TS.sq ?_))
 obtain ⟨r3, h4, hF⟩ := of_do hF
 refine TS.rg (TI.ra 2 [2, 7, 8, 9, 10, 39, 40] (st 289 [(2, .int .u8 p15), (7, pt 6 0), (8, accV 4 r1.2.1.length), (9, accV 5 r1.2.2.length), (10, iv (w64 p14)), (39, ag [iv r1.1.1, iv r1.1.2.1, accV 3 r1.1.2.2.length]), (40, iv (w64 p14))]) (TI.cp 37 [ag [iv r1.1.1, iv r1.1.2.1, accV 3 r1.1.2.2.length], iv (w64 p14)] (.tuple ⟨[iv r3.1, iv r3.2]⟩) [] (PureSim.ren (hc := (H8_41 r1)) (fun i => List.getD [(3, 0)] i (0, 0)) (C37 _ _ _ _ _ h4) (.ac (.nil _)) (.cons (Rn.agg' (.fl (.fl (.cons (Rn.accA (i' := 3) (nl rfl) rfl) .nil)))) (.fl .nil)) (.flat (by kernel_rfl)) newflat_nil) (TI.ra 5 [2, 7, 8, 9, 10, 11, 12] (st 289 [(2, .int .u8 p15), (7, pt 6 0), (8, accV 4 r1.2.1.length), (9, accV 5 r1.2.2.length), (10, iv (w64 p14)), (11, iv r3.1), (12, iv r3.2)]) (TI.dn (NX.sq (TS.sq ?_))))))
 obtain ⟨r5, h6, hF⟩ := of_do hF
 refine TS.rg (TI.ra 1 [2, 7, 8, 9, 10, 11, 12, 45] (st 289 [(2, .int .u8 p15), (7, pt 6 0), (8, accV 4 r1.2.1.length), (9, accV 5 r1.2.2.length), (10, iv (w64 p14)), (11, iv r3.1), (12, iv r3.2), (45, ag [iv r1.1.1, iv r1.1.2.1, accV 3 r1.1.2.2.length])]) (TI.cp 18 [ag [iv r1.1.1, iv r1.1.2.1, accV 3 r1.1.2.2.length]] (.tuple ⟨[iv r5.1, iv r5.2]⟩) [] (PureSim.ren (hc := (H8_41 r1)) (fun i => List.getD [(3, 0)] i (0, 0)) (C18 _ _ _ _ h6) (.ac (.nil _)) (.cons (Rn.agg' (.fl (.fl (.cons (Rn.accA (i' := 3) (nl rfl) rfl) .nil)))) .nil) (.flat (by kernel_rfl)) newflat_nil) (TI.ra 5 [2, 7, 8, 9, 10, 11, 12, 13, 14] (st 289 [(2, .int .u8 p15), (7, pt 6 0), (8, accV 4 r1.2.1.length), (9, accV 5 r1.2.2.length), (10, iv (w64 p14)), (11, iv r3.1), (12, iv r3.2), (13, iv r5.1), (14, iv r5.2)]) (TI.dn (NX.sq (TS.sq ?_))))))
 obtain ⟨r7, h8, hF⟩ := of_do hF
 refine TS.rg (TI.ra 1 [2, 7, 8, 9, 10, 11, 12, 13, 14, 49] (st 289 [(2, .int .u8 p15), (7, pt 6 0), (8, accV 4 r1.2.1.length), (9, accV 5 r1.2.2.length), (10, iv (w64 p14)), (11, iv r3.1), (12, iv r3.2), (13, iv r5.1), (14, iv r5.2), (49, ag [iv r1.1.1, iv r1.1.2.1, accV 3 r1.1.2.2.length])]) (TI.cp 35 [ag [iv r1.1.1, iv r1.1.2.1, accV 3 r1.1.2.2.length]] (mkV 7 r7.length) [.cells 3 (List.flatMap e3 r7)] (PureSim.ren (hc := (H8_41 r1)) (fun i => List.getD [(3, 0)] i (0, 0)) (C35 _ _ _ _ h8) (.ac (.nil _)) (.cons (Rn.agg' (.fl (.fl (.cons (Rn.accA (i' := 3) (nl rfl) rfl) .nil)))) .nil) (Rn.mk (i' := 7) (nl rfl) rfl rfl) (newflat_cons (cellsL_flat (fun _ => rfl)) newflat_nil)) (TI.rn 1 [2, 7, 8, 9, 10, 11, 12, 13, 14, 15] [0, 1, 3, 4, 5, 6, 7] (st 289 [(2, .int .u8 p15), (7, pt 6 0), (8, accV 4 r1.2.1.length), (9, accV 5 r1.2.2.length), (10, iv (w64 p14)), (11, iv r3.1), (12, iv r3.2), (13, iv r5.1), (14, iv r5.2), (15, mkV 7 r7.length)]) [ab 5 e5 p2, ab 5 e5 p13, .dead, ab 57 e57 r1.1.2.2, ab 3 e3 r1.2.1, ab 3 e3 r1.2.2, cl 24 [iv r1.1.1, iv r1.1.2.1, accV 3 r1.1.2.2.length], .cells 3 (List.flatMap e3 r7)] (TI.dn (NX.sq (TS.sq (TS.rg (TI.ra 1 [2, 7, 8, 9, 10, 11, 12, 13, 14, 15, 16] (st 289 [(2, .int .u8 p15), (7, pt 6 0), (8, accV 4 r1.2.1.length), (9, accV 5 r1.2.2.length), (10, iv (w64 p14)), (11, iv r3.1), (12, iv r3.2), (13, iv r5.1), (14, iv r5.2), (15, mkV 7 r7.length), (16, iv 0)]) ?_))))))))
 refine TI.dn (NX.sq (TS.sq (TS.sq (TS.rg (TI.ra 3 [2, 7, 8, 9, 10, 11, 12, 13, 14, 15, 16, 51, 52, 53] (st 289 [(2, .int .u8 p15), (7, pt 6 0), (8, accV 4 r1.2.1.length), (9, accV 5 r1.2.2.length), (10, iv (w64 p14)), (11, iv r3.1), (12, iv r3.2), (13, iv r5.1), (14, iv r5.2), (15, mkV 7 r7.length), (16, iv 0), (51, mkV 7 r7.length), (52, iv (r7.length : Int)), (53, iv 0)]) (TI.dn (NX.sq (TS.bk 0 ?_))))))))
 obtain ⟨r32, h33, hF⟩ := of_do hF
 refine TS.lp (TL.weak (a2 := (st 289 [(2, .int .u8 p15), (7, pt 2 0), (8, accV 4 r1.2.1.length), (9, accV 5 r1.2.2.length), (10, iv (w64 p14)), (11, iv r3.1), (12, iv r3.2), (13, iv r5.1), (14, iv r5.2), (15, mkV 6 r7.length), (16, iv 0), (51, mkV 6 r7.length), (52, iv (r7.length : Int)), (53, iv 0)])) (h2 := (H8_20 p2 p13 r1 r7)) (Wk.an [6, 3, 4, 5, 7] (.ac (.ac (.lt (.fl (.fl (.cons (Rn.acc (nl rfl) rfl) .nil))) (.ac (.ac (.ac (.cons (At.blk (by kernel_rfl) (RnB.list (fun _ => rfl))) (.nil _)))))))) [.int .u8 p15, pt 6 0, accV 4 r1.2.1.length, accV 5 r1.2.2.length, iv (w64 p14), iv r3.1, iv r3.2, iv r5.1, iv r5.2, mkV 7 r7.length, iv 0, mkV 7 r7.length, iv (r7.length : Int), iv 0] (.fl (.pp (.cons (Rn.acc (nl rfl) rfl) (.cons (Rn.acc (nl rfl) rfl) (.fl (.fl (.fl (.fl (.fl (.cons (Rn.mk (nl rfl) rfl (by simp only [List.length_set])) (.fl (.cons (Rn.mk (nl rfl) rfl (by simp only [List.length_set])) (.fl (.fl .nil))))))))))))))) (TL.post (L8l0 p2 p13 p14 p15 r1 r3 r5 r7 0 0 r32 h33) ?_))
 rintro e a1 h1 hp
 obtain ⟨rfl, hw⟩ := hp
 refine ⟨(st 289 [(2, .int .u8 p15), (7, pt 2 0), (8, accV 4 r1.2.1.length), (9, accV 5 r1.2.2.length), (10, iv (w64 p14)), (11, iv r3.1), (12, iv r3.2), (13, iv r5.1), (14, iv r5.2), (15, mkV 6 r7.length), (16, iv r32)]), (H8_20 p2 p13 r1 r7), (NX.bkX (NX.sq (TS.sq (TS.sq ?_)))), hw⟩
 obtain ⟨m38, hm299, hF⟩ := of_do hF
 have hK : NX Try.prog 2 2 [.sq c8.s2.s2.s2.s2.s2.s2.s2.s2.s1.s2, .sq c8.s2.s2.s2.s2.s2.s2.s2.s2.s2] (FinP Try.prog Try.f8 2 (V8 2 r) (N8 2 r)) .normal (st 289 [(2, .int .u8 p15), (7, pt 2 0), (8, accV 4 r1.2.1.length), (9, accV 5 r1.2.2.length), (10, iv (w64 p14)), (11, iv r3.1), (12, iv r3.2), (13, iv r5.1), (15, mkV 6 r7.length), (75, .bool m38)]) (H8_20 p2 p13 r1 r7) := by
  refine NX.sq ?_
  cases m38 with
  | true =>
   replace hF := of_pos hF rfl
   refine TS.cdT (.tmp 75) (TS.sq (TS.rg (TI.rn 1 [6] [0, 1] (st 289 [(6, .bool false)]) (H8_34 p2 p13) (TI.dn (NX.sq (TS.rt (NX.sqR ?_)))))))
   have hF := sj hF
   subst hF
   exact ⟨.inr rfl, rfl, .bool false, by kernel_rfl, WkV.flat0 (by kernel_rfl) (nl rfl)⟩
  | false =>
   replace hF := of_neg hF rfl
   refine TS.cdF (.tmp 75) (TS.sk (NX.sq (TS.sq ?_)))
   obtain ⟨hg39, hF⟩ := of_guardn hF
   obtain ⟨hg40, hF⟩ := of_guard hF
   obtain ⟨o41, h42, hF⟩ := of_do hF
   replace h42 := sj h42
   obtain ⟨hg43, hF⟩ := of_guardn hF
   obtain ⟨hg44, hF⟩ := of_guard hF
   obtain ⟨o45, h46, hF⟩ := of_do hF
   replace h46 := sj h46
   refine TS.dp [] (fun e he => by cases he) mixed 18 [2, 7, 8, 9, 10, 11, 12, 13, 15, 19, 20] [0, 1, 2, 3, 4, 5, 6] (st 289 [(2, .int .u8 p15), (7, pt 2 0), (8, accV 4 r1.2.1.length), (9, accV 5 r1.2.2.length), (10, iv (w64 p14)), (11, iv r3.1), (12, iv r3.2), (13, iv r5.1), (15, mkV 6 r7.length), (19, iv o41), (20, iv o45)]) (H8_20 p2 p13 r1 r7) ?_ ?_
   · refine QJ.rn (qs (st 289 [(2, .int .u8 p15), (7, pt 2 0), (8, accV 4 r1.2.1.length), (9, accV 5 r1.2.2.length), (10, iv (w64 p14)), (11, iv r3.1), (12, iv r3.2), (13, iv r5.1), (15, mkV 6 r7.length), (75, .bool false), (76, mkV 6 r7.length), (77, iv (w64 p14)), (78, pt 2 0), (79, iv r1.1.1)]) (H8_20 p2 p13 r1 r7) [] []) 4 (QJ.o { val := iv (Int.tmod (w64 p14) r1.1.1) } (q_int (P := Try.prog) (op := .rem) (ty := 3) (ox := (.tmp 77)) (oy := (.tmp 79)) (k := .i64) (k' := .i64) (y := w64 p14) (z := r1.1.1) (by kernel_rfl) (rem_ok hg39)) (QJ.o { val := .pointer (some ⟨6, 0 + (Int.toNat (Int.tmod (w64 p14) r1.1.1)) * 1, none⟩) } (q_ixS 6 0 ((Int.toNat (Int.tmod (w64 p14) r1.1.1)) * 1) (by kernel_rfl) hg40) (QJ.o { val := iv o41 } (q_n1 Try.prog (H8_20 p2 p13 r1 r7) 3 6 (0 + (Int.toNat (Int.tmod (w64 p14) r1.1.1)) * 1) r7 e3 1 3 (Int.toNat (Int.tmod (w64 p14) r1.1.1)) 0 0 h42) (QJ.rn (qs (st 289 [(2, .int .u8 p15), (7, pt 2 0), (8, accV 4 r1.2.1.length), (9, accV 5 r1.2.2.length), (10, iv (w64 p14)), (11, iv r3.1), (12, iv r3.2), (13, iv r5.1), (15, mkV 6 r7.length), (75, .bool false), (76, mkV 6 r7.length), (77, iv (w64 p14)), (78, pt 2 0), (79, iv r1.1.1), (80, iv (Int.tmod (w64 p14) r1.1.1)), (81, .pointer (some ⟨6, 0 + (Int.toNat (Int.tmod (w64 p14) r1.1.1)) * 1, none⟩)), (82, iv o41), (83, mkV 6 r7.length), (84, pt 2 0), (85, iv r1.1.1), (86, iv (w64 p14)), (87, pt 2 1), (88, iv r1.1.2.1)]) (H8_20 p2 p13 r1 r7) [] []) 6 (QJ.o { val := iv (Int.tmod (w64 p14) r1.1.2.1) } (q_int (P := Try.prog) (op := .rem) (ty := 3) (ox := (.tmp 86)) (oy := (.tmp 88)) (k := .i64) (k' := .i64) (y := w64 p14) (z := r1.1.2.1) (by kernel_rfl) (rem_ok hg43)) (QJ.rn (qs (st 289 [(2, .int .u8 p15), (7, pt 2 0), (8, accV 4 r1.2.1.length), (9, accV 5 r1.2.2.length), (10, iv (w64 p14)), (11, iv r3.1), (12, iv r3.2), (13, iv r5.1), (15, mkV 6 r7.length), (75, .bool false), (76, mkV 6 r7.length), (77, iv (w64 p14)), (78, pt 2 0), (79, iv r1.1.1), (80, iv (Int.tmod (w64 p14) r1.1.1)), (81, .pointer (some ⟨6, 0 + (Int.toNat (Int.tmod (w64 p14) r1.1.1)) * 1, none⟩)), (82, iv o41), (83, mkV 6 r7.length), (84, pt 2 0), (85, iv r1.1.1), (86, iv (w64 p14)), (87, pt 2 1), (88, iv r1.1.2.1), (89, iv (Int.tmod (w64 p14) r1.1.2.1)), (90, iv (w64 (r1.1.1 + (Int.tmod (w64 p14) r1.1.2.1))))]) (H8_20 p2 p13 r1 r7) [] []) 1 (QJ.o { val := .pointer (some ⟨6, 0 + (Int.toNat (w64 (r1.1.1 + (Int.tmod (w64 p14) r1.1.2.1)))) * 1, none⟩) } (q_ixS 6 0 ((Int.toNat (w64 (r1.1.1 + (Int.tmod (w64 p14) r1.1.2.1)))) * 1) (by kernel_rfl) hg44) (QJ.o { val := iv o45 } (q_n1 Try.prog (H8_20 p2 p13 r1 r7) 3 6 (0 + (Int.toNat (w64 (r1.1.1 + (Int.tmod (w64 p14) r1.1.2.1)))) * 1) r7 e3 1 3 (Int.toNat (w64 (r1.1.1 + (Int.tmod (w64 p14) r1.1.2.1)))) 0 0 h46) ?_))))))))
     exact QJ.rn (qs (st 289 [(2, .int .u8 p15), (7, pt 2 0), (8, accV 4 r1.2.1.length), (9, accV 5 r1.2.2.length), (10, iv (w64 p14)), (11, iv r3.1), (12, iv r3.2), (13, iv r5.1), (15, mkV 6 r7.length), (19, iv o41), (75, .bool false), (76, mkV 6 r7.length), (77, iv (w64 p14)), (78, pt 2 0), (79, iv r1.1.1), (80, iv (Int.tmod (w64 p14) r1.1.1)), (81, .pointer (some ⟨6, 0 + (Int.toNat (Int.tmod (w64 p14) r1.1.1)) * 1, none⟩)), (82, iv o41), (83, mkV 6 r7.length), (84, pt 2 0), (85, iv r1.1.1), (86, iv (w64 p14)), (87, pt 2 1), (88, iv r1.1.2.1), (89, iv (Int.tmod (w64 p14) r1.1.2.1)), (90, iv (w64 (r1.1.1 + (Int.tmod (w64 p14) r1.1.2.1)))), (91, .pointer (some ⟨6, 0 + (Int.toNat (w64 (r1.1.1 + (Int.tmod (w64 p14) r1.1.2.1)))) * 1, none⟩)), (92, iv o45)]) (H8_20 p2 p13 r1 r7) [] []) 1 (QJ.dn ⟨rfl, SJ.la⟩)
   refine TS.sq (TS.sq (TS.rg (TI.ra 3 [2, 7, 8, 9, 10, 11, 12, 13, 15, 19, 95] (st 289 [(2, .int .u8 p15), (7, pt 2 0), (8, accV 4 r1.2.1.length), (9, accV 5 r1.2.2.length), (10, iv (w64 p14)), (11, iv r3.1), (12, iv r3.2), (13, iv r5.1), (15, mkV 6 r7.length), (19, iv o41), (95, .bool (o41 == o45))]) (TI.dn (NX.sq ?_)))))
   refine TS.cd (.tmp 95) (o41 == o45) (fun hc47 => ?_) (fun hc47 => ?_)
   · replace hF := of_pos hF hc47
     refine TS.sq ?_
     obtain ⟨m58, hm59, hF⟩ := of_do hF
     have hK : NX Try.prog 2 2 [.sq c8.s2.s2.s2.s2.s2.s2.s2.s2.s2.s2.s1.s2.th.s2, .sq c8.s2.s2.s2.s2.s2.s2.s2.s2.s2.s2.s2] (FinP Try.prog Try.f8 2 (V8 2 r) (N8 2 r)) .normal (st 289 [(6, .bool m58)]) (H8_34 p2 p13) := by
      refine NX.sq (TS.rt (NX.sqR ?_))
      have hF := sj hF
      subst hF
      exact ⟨.inr rfl, rfl, .bool m58, by kernel_rfl, WkV.flat0 (by kernel_rfl) (nl rfl)⟩
     rcases Bool.eq_false_or_eq_true (r3.2 == 0) with hc48 | hc48
     · replace hm59 := of_pos hm59 hc48
       have hX := of_guard hm59
       clear hm59
       obtain ⟨hg49, hm59⟩ := hX
       have hX := of_do hm59
       clear hm59
       obtain ⟨o50, h51, hm59⟩ := hX
       replace h51 := sj h51
       have hX := of_guard hm59
       clear hm59
       obtain ⟨hg52, hm59⟩ := hX
       have hX := of_do hm59
       clear hm59
       obtain ⟨o53, h54, hm59⟩ := hX
       replace h54 := sj h54
       rcases Bool.eq_false_or_eq_true (r3.1 == (w64 (o50 + o53))) with hc55 | hc55
       · replace hm59 := of_pos hm59 hc55
         have hX := of_do hm59
         clear hm59
         obtain ⟨r56, h57, hm59⟩ := hX
         have hm59 := sj hm59
         subst hm59
         have hT : ∀ e ∈ ([⟨14, [], (H8_20 p2 p13 r1 r7), .bool r56, []⟩] : List Entry), PureSim Try.prog e.g e.args e.h e.v e.new := by
          intro e he
          simp only [List.mem_cons, List.not_mem_nil, or_false] at he
          rcases he with rfl
          exact PureSim.ak (C14 _ h57)
         refine TS.dp [⟨14, [], (H8_20 p2 p13 r1 r7), .bool r56, []⟩] hT mixed 19 [6] [0, 1] (st 289 [(6, .bool r56)]) (H8_34 p2 p13) ?_ ?_
         · refine QJ.rn (qs (S8_30 p15 r1 p14 r3 r5 r7 o41 o45) (H8_20 p2 p13 r1 r7) [] []) 1 (QJ.o { val := .bool true } (q_conv (e := r3.2 == 0) (b := true) (by kernel_rfl) hc48) (QJ.rn (qs (S8_18 p15 r1 p14 r3 r5 r7 o41 o45) (H8_20 p2 p13 r1 r7) [] []) 6 (QJ.o { val := iv (Int.tmod (w64 p14) r1.1.1) } (q_int (P := Try.prog) (op := .rem) (ty := 3) (ox := (.tmp 101)) (oy := (.tmp 103)) (k := .i64) (k' := .i64) (y := w64 p14) (z := r1.1.1) (by kernel_rfl) (rem_ok hg39)) (QJ.o { val := .pointer (some ⟨4, 0 + (Int.toNat (Int.tmod (w64 p14) r1.1.1)) * 1, none⟩) } (q_ixAcc (P := Try.prog) (t := 30) (s := 1) (e := 3) 4 r1.2.1.length (by kernel_rfl) hg49 (by kernel_rfl) (by kernel_rfl)) (QJ.o { val := iv o50 } (q_n1a Try.prog (H8_20 p2 p13 r1 r7) 3 4 (0 + (Int.toNat (Int.tmod (w64 p14) r1.1.1)) * 1) r1.2.1 e3 1 3 (Int.toNat (Int.tmod (w64 p14) r1.1.1)) 0 0 h51) (QJ.rn (qs (S8_5 p15 r1 p14 r3 r5 r7 o41 o45 o50) (H8_20 p2 p13 r1 r7) [] []) 4 (QJ.o { val := iv (Int.tmod (w64 p14) r1.1.2.1) } (q_int (P := Try.prog) (op := .rem) (ty := 3) (ox := (.tmp 108)) (oy := (.tmp 110)) (k := .i64) (k' := .i64) (y := w64 p14) (z := r1.1.2.1) (by kernel_rfl) (rem_ok hg43)) (QJ.o { val := .pointer (some ⟨5, 0 + (Int.toNat (Int.tmod (w64 p14) r1.1.2.1)) * 1, none⟩) } (q_ixAcc (P := Try.prog) (t := 30) (s := 1) (e := 3) 5 r1.2.2.length (by kernel_rfl) hg52 (by kernel_rfl) (by kernel_rfl)) ?_))))))))
           exact QJ.o { val := iv o53 } (q_n1a Try.prog (H8_20 p2 p13 r1 r7) 3 5 (0 + (Int.toNat (Int.tmod (w64 p14) r1.1.2.1)) * 1) r1.2.2 e3 1 3 (Int.toNat (Int.tmod (w64 p14) r1.1.2.1)) 0 0 h54) (QJ.rn (qs (S8_4 p15 r1 p14 r3 r5 r7 o41 o45 o50 o53) (H8_20 p2 p13 r1 r7) [] []) 1 (QJ.dn ⟨rfl, (SJ.o { val := .bool true } (q_conv (e := r3.1 == (w64 (o50 + o53))) (b := true) (by kernel_rfl) hc55) (SJ.rn (st 289 [(2, .int .u8 p15), (7, pt 2 0), (8, accV 4 r1.2.1.length), (9, accV 5 r1.2.2.length), (10, iv (w64 p14)), (11, iv r3.1), (12, iv r3.2), (13, iv r5.1), (15, mkV 6 r7.length), (19, iv o41), (95, .bool (o41 == o45)), (96, iv r3.2), (97, .bool true), (98, .bool true), (99, iv r3.1), (100, accV 4 r1.2.1.length), (101, iv (w64 p14)), (102, pt 2 0), (103, iv r1.1.1), (104, iv (Int.tmod (w64 p14) r1.1.1)), (105, .pointer (some ⟨4, 0 + (Int.toNat (Int.tmod (w64 p14) r1.1.1)) * 1, none⟩)), (106, iv o50), (107, accV 5 r1.2.2.length), (108, iv (w64 p14)), (109, pt 2 1), (110, iv r1.1.2.1), (111, iv (Int.tmod (w64 p14) r1.1.2.1)), (112, .pointer (some ⟨5, 0 + (Int.toNat (Int.tmod (w64 p14) r1.1.2.1)) * 1, none⟩)), (113, iv o53), (114, iv (w64 (o50 + o53))), (115, .bool true), (116, .bool true), (117, .bool true)]) (H8_20 p2 p13 r1 r7) 2 (SJ.o { val := .bool r56, new := [] } (qOf_call (g := 14) (args := []) (by kernel_rfl) lookC_hit) SJ.la)))⟩))
         exact hK
       replace hm59 := of_neg hm59 hc55
       have hm59 := sj hm59
       subst hm59
       refine TS.dp [] (fun e he => by cases he) mixed 19 [6] [0, 1] (st 289 [(6, .bool false)]) (H8_34 p2 p13) ?_ ?_
       · refine QJ.rn (qs (S8_30 p15 r1 p14 r3 r5 r7 o41 o45) (H8_20 p2 p13 r1 r7) [] []) 1 (QJ.o { val := .bool true } (q_conv (e := r3.2 == 0) (b := true) (by kernel_rfl) hc48) (QJ.rn (qs (S8_18 p15 r1 p14 r3 r5 r7 o41 o45) (H8_20 p2 p13 r1 r7) [] []) 6 (QJ.o { val := iv (Int.tmod (w64 p14) r1.1.1) } (q_int (P := Try.prog) (op := .rem) (ty := 3) (ox := (.tmp 101)) (oy := (.tmp 103)) (k := .i64) (k' := .i64) (y := w64 p14) (z := r1.1.1) (by kernel_rfl) (rem_ok hg39)) (QJ.o { val := .pointer (some ⟨4, 0 + (Int.toNat (Int.tmod (w64 p14) r1.1.1)) * 1, none⟩) } (q_ixAcc (P := Try.prog) (t := 30) (s := 1) (e := 3) 4 r1.2.1.length (by kernel_rfl) hg49 (by kernel_rfl) (by kernel_rfl)) (QJ.o { val := iv o50 } (q_n1a Try.prog (H8_20 p2 p13 r1 r7) 3 4 (0 + (Int.toNat (Int.tmod (w64 p14) r1.1.1)) * 1) r1.2.1 e3 1 3 (Int.toNat (Int.tmod (w64 p14) r1.1.1)) 0 0 h51) (QJ.rn (qs (S8_5 p15 r1 p14 r3 r5 r7 o41 o45 o50) (H8_20 p2 p13 r1 r7) [] []) 4 (QJ.o { val := iv (Int.tmod (w64 p14) r1.1.2.1) } (q_int (P := Try.prog) (op := .rem) (ty := 3) (ox := (.tmp 108)) (oy := (.tmp 110)) (k := .i64) (k' := .i64) (y := w64 p14) (z := r1.1.2.1) (by kernel_rfl) (rem_ok hg43)) (QJ.o { val := .pointer (some ⟨5, 0 + (Int.toNat (Int.tmod (w64 p14) r1.1.2.1)) * 1, none⟩) } (q_ixAcc (P := Try.prog) (t := 30) (s := 1) (e := 3) 5 r1.2.2.length (by kernel_rfl) hg52 (by kernel_rfl) (by kernel_rfl)) ?_))))))))
         exact QJ.o { val := iv o53 } (q_n1a Try.prog (H8_20 p2 p13 r1 r7) 3 5 (0 + (Int.toNat (Int.tmod (w64 p14) r1.1.2.1)) * 1) r1.2.2 e3 1 3 (Int.toNat (Int.tmod (w64 p14) r1.1.2.1)) 0 0 h54) (QJ.rn (qs (S8_4 p15 r1 p14 r3 r5 r7 o41 o45 o50 o53) (H8_20 p2 p13 r1 r7) [] []) 1 (QJ.dn ⟨rfl, (SJ.o { val := .bool false } (q_conv (e := r3.1 == (w64 (o50 + o53))) (b := false) (by kernel_rfl) hc55) SJ.la)⟩))
       exact hK
     replace hm59 := of_neg hm59 hc48
     have hm59 := sj hm59
     subst hm59
     refine TS.dp [] (fun e he => by cases he) mixed 19 [6] [0, 1] (st 289 [(6, .bool false)]) (H8_34 p2 p13) ?_ ?_
     · exact QJ.rn (qs (S8_30 p15 r1 p14 r3 r5 r7 o41 o45) (H8_20 p2 p13 r1 r7) [] []) 1 (QJ.o { val := .bool false } (q_conv (e := r3.2 == 0) (b := false) (by kernel_rfl) hc48) (QJ.rn (qs (st 289 [(2, .int .u8 p15), (7, pt 2 0), (8, accV 4 r1.2.1.length), (9, accV 5 r1.2.2.length), (10, iv (w64 p14)), (11, iv r3.1), (12, iv r3.2), (13, iv r5.1), (15, mkV 6 r7.length), (19, iv o41), (95, .bool (o41 == o45)), (96, iv r3.2), (97, .bool false), (98, .bool false), (99, undef), (100, undef), (101, undef), (102, undef), (103, undef), (104, undef), (105, undef), (106, undef), (107, undef), (108, undef), (109, undef), (110, undef), (111, undef), (112, undef), (113, undef), (114, undef)]) (H8_20 p2 p13 r1 r7) [] []) 17 (QJ.dn ⟨rfl, SJ.la⟩)))
     exact hK
   replace hF := of_neg hF hc47
   refine TS.sk (NX.sq (TS.sq (TS.sq (TS.rg (TI.ra 2 [2, 7, 8, 9, 10, 13, 15, 19, 121] (st 289 [(2, .int .u8 p15), (7, pt 2 0), (8, accV 4 r1.2.1.length), (9, accV 5 r1.2.2.length), (10, iv (w64 p14)), (13, iv r5.1), (15, mkV 6 r7.length), (19, iv o41), (121, .bool (r3.2 != 14))]) (TI.dn (NX.sq ?_)))))))
   refine TS.cd (.tmp 121) (r3.2 != 14) (fun hc60 => ?_) (fun hc60 => ?_)
   · replace hF := of_pos hF hc60
     refine TS.sq (TS.rg (TI.rn 1 [6] [0, 1] (st 289 [(6, .bool false)]) (H8_34 p2 p13) (TI.dn (NX.sq (TS.rt (NX.sqR ?_))))))
     have hF := sj hF
     subst hF
     exact ⟨.inr rfl, rfl, .bool false, by kernel_rfl, WkV.flat0 (by kernel_rfl) (nl rfl)⟩
   replace hF := of_neg hF hc60
   refine TS.sk (NX.sq (TS.sq (TS.sq (TS.rg (TI.ra 3 [2, 7, 8, 9, 10, 13, 19, 122, 123, 124] (st 289 [(2, .int .u8 p15), (7, pt 2 0), (8, accV 4 r1.2.1.length), (9, accV 5 r1.2.2.length), (10, iv (w64 p14)), (13, iv r5.1), (19, iv o41), (122, mkV 6 r7.length), (123, iv (r7.length : Int)), (124, iv 0)]) (TI.dn (NX.sq (TS.bk 2 ?_))))))))
   obtain ⟨r138, h139, hF⟩ := of_do hF
   refine TS.lp (TL.weak (a2 := (st 289 [(2, .int .u8 p15), (7, pt 2 0), (8, accV 4 r1.2.1.length), (9, accV 5 r1.2.2.length), (10, iv (w64 p14)), (13, iv r5.1), (19, iv o41), (122, mkV 6 r7.length), (123, iv (r7.length : Int)), (124, iv 0)])) (h2 := (H8_20 p2 p13 r1 r7)) (Wk.an [2, 3, 4, 5, 6] (.ac (.ac (.lt (.fl (.fl (.cons (Rn.acc (nl rfl) rfl) .nil))) (.ac (.ac (.ac (.cons (At.blk (by kernel_rfl) (RnB.list (fun _ => rfl))) (.nil _)))))))) [.int .u8 p15, pt 2 0, accV 4 r1.2.1.length, accV 5 r1.2.2.length, iv (w64 p14), iv r5.1, iv o41, mkV 6 r7.length, iv (r7.length : Int), iv 0] (.fl (.pp (.cons (Rn.acc (nl rfl) rfl) (.cons (Rn.acc (nl rfl) rfl) (.fl (.fl (.fl (.cons (Rn.mk (nl rfl) rfl (by simp only [List.length_set])) (.fl (.fl .nil))))))))))) (TL.post (L8l1 p2 p13 p14 p15 o41 r1 r5 r7 0 r1.2.1 r1.2.2 r138 h139) ?_))
   rintro e a1 h1 hp
   obtain ⟨rfl, hw⟩ := hp
   refine ⟨(S8_35 r138 p14 r5), (H8_25 p2 p13 r1 r138), (NX.bkX (NX.sq (TS.sq (TS.sq (TS.rg (TI.ra 4 [7, 8, 9, 10, 13, 168, 169, 170] (st 289 [(7, pt 2 0), (8, accV 4 r138.1.length), (9, accV 5 r138.2.length), (10, iv (w64 p14)), (13, iv r5.1), (168, accV 3 r1.1.2.2.length), (169, iv (r1.1.2.2.length : Int)), (170, iv 0)]) (TI.dn (NX.sq ?_)))))))), hw⟩
   refine TS.bk 4 ?_
   obtain ⟨r180, h181, hF⟩ := of_do hF
   refine TS.lp (TL.weak (a2 := (st 289 [(7, pt 2 0), (8, accV 4 r138.1.length), (9, accV 5 r138.2.length), (10, iv (w64 p14)), (13, iv r5.1), (168, accV 3 r1.1.2.2.length), (169, iv (r1.1.2.2.length : Int)), (170, iv 0)])) (h2 := (H8_25 p2 p13 r1 r138)) (Wk.an [2, 3, 4, 5] (.ac (.ac (.lt (.fl (.fl (.cons (Rn.acc (nl rfl) rfl) .nil))) (.ac (.ac (.ac (.nil _))))))) [pt 2 0, accV 4 r138.1.length, accV 5 r138.2.length, iv (w64 p14), iv r5.1, accV 3 r1.1.2.2.length, iv (r1.1.2.2.length : Int), iv 0] (.pp (.cons (Rn.acc (nl rfl) rfl) (.cons (Rn.acc (nl rfl) rfl) (.fl (.fl (.cons (Rn.acc (nl rfl) rfl) (.fl (.fl .nil))))))))) (TL.post (L8l2 p2 p13 p14 r1 r5 r138 0 r180 h181) ?_))
   rintro e a1 h1 hp
   rcases r180 with o182 | o183
   · skip
     obtain ⟨rfl, hw⟩ := hp
     refine ⟨(st 289 [(6, .bool false)]), (H8_37 p2 p13), (NX.bkR (NX.sqR ?_)), hw⟩
     have hF := sj hF
     subst hF
     exact ⟨.inr rfl, rfl, .bool false, by kernel_rfl, WkV.flat0 (by kernel_rfl) (nl rfl)⟩
   skip
   obtain ⟨rfl, hw⟩ := hp
   refine ⟨(S8_35 r138 p14 r5), (H8_25 p2 p13 r1 r138), (NX.bkX (NX.sq (TS.sq (TS.rg (TI.rn 7 [7, 8, 9, 10, 13, 25] [0, 1, 2, 3, 4, 5, 6] (st 289 [(7, pt 2 0), (8, accV 4 r138.1.length), (9, accV 5 r138.2.length), (10, iv (w64 p14)), (13, iv r5.1), (25, pt 6 0)]) [ab 5 e5 p2, ab 5 e5 p13, cl 24 [iv r1.1.1, iv r1.1.2.1, accV 3 r1.1.2.2.length], ab 57 e57 r1.1.2.2, ab 3 e3 r138.1, ab 3 e3 r138.2, cl 24 [iv r1.1.1, iv r1.1.2.1, .slice none 0 0]] (TI.dn (NX.sq (TS.sq ?_)))))))), hw⟩
   refine TS.rg (TI.ra 1 [7, 8, 9, 10, 13, 25, 26] (st 289 [(7, pt 2 0), (8, accV 4 r138.1.length), (9, accV 5 r138.2.length), (10, iv (w64 p14)), (13, iv r5.1), (25, pt 6 0), (26, .bool false)]) (TI.dn (NX.sq (TS.sq (TS.sq (TS.rg (TI.ra 4 [7, 8, 9, 10, 13, 25, 26, 201, 202, 203] (S8_31 r138 p14 r5 r1) (TI.dn ?_))))))))
   refine NX.sq (TS.bk 6 ?_)
   obtain ⟨r262, h263, hF⟩ := of_do hF
   refine TS.lp (TL.weak (a2 := (S8_31 r138 p14 r5 r1)) (h2 := [ab 5 e5 p2, ab 5 e5 p13, cl 24 [iv r1.1.1, iv r1.1.2.1, accV 3 r1.1.2.2.length], ab 57 e57 r1.1.2.2, ab 3 e3 r138.1, ab 3 e3 r138.2, cl 24 [iv r1.1.1, iv r1.1.2.1, accV 7 (List.length ([]))], accB 57 (List.length ([])) (List.flatMap e57 ([]))]) (Wk.an [2, 3, 4, 5, 6, 7] (.ac (.ac (.lt (.fl (.fl (.cons (Rn.acc (nl rfl) rfl) .nil))) (.ac (.ac (.ac (.lt (.fl (.fl (.cons (Rn.accN) .nil))) (.cons At.accN (.nil _))))))))) [pt 2 0, accV 4 r138.1.length, accV 5 r138.2.length, iv (w64 p14), iv r5.1, pt 6 0, .bool false, accV 3 r1.1.2.2.length, iv (r1.1.2.2.length : Int), iv 0] (.pp (.cons (Rn.acc (nl rfl) rfl) (.cons (Rn.acc (nl rfl) rfl) (.fl (.fl (.pp (.fl (.cons (Rn.acc (nl rfl) rfl) (.fl (.fl .nil))))))))))) (TL.post (L8l3 p2 p13 p14 r1 r5 r138 false 0 ([]) r262 h263) ?_))
   rintro e a1 h1 hp
   obtain ⟨rfl, hw⟩ := hp
   refine ⟨(st 289 [(7, pt 2 0), (8, accV 4 r138.1.length), (9, accV 5 r138.2.length), (10, iv (w64 p14)), (13, iv r5.1), (25, pt 6 0), (26, .bool r262.1)]), (H8_14 p2 p13 r1 r138 r262), (NX.bkX (NX.sq (TS.sq (TS.sq ?_)))), hw⟩
   obtain ⟨m265, hm298, hF⟩ := of_do hF
   have hK : NX Try.prog 2 2 [.sq c8.s2.s2.s2.s2.s2.s2.s2.s2.s2.s2.s2.s2.s2.s2.s2.s2.s2.s1.s2, .sq c8.s2.s2.s2.s2.s2.s2.s2.s2.s2.s2.s2.s2.s2.s2.s2.s2.s2.s2] (FinP Try.prog Try.f8 2 (V8 2 r) (N8 2 r)) .normal (st 289 [(7, pt 2 0), (8, accV 4 r138.1.length), (9, accV 5 r138.2.length), (10, iv (w64 p14)), (13, iv r5.1), (25, pt 6 0), (245, .bool m265)]) (H8_14 p2 p13 r1 r138 r262) := by
    refine NX.sq ?_
    obtain ⟨m276, hm277, hF⟩ := of_do hF
    have hK : NX Try.prog 2 2 [.sq c8.s2.s2.s2.s2.s2.s2.s2.s2.s2.s2.s2.s2.s2.s2.s2.s2.s2.s2] (FinP Try.prog Try.f8 2 (V8 2 r) (N8 2 r)) .normal (st 289 [(13, iv r5.1), (25, pt 2 0)]) (H8_33 p2 p13 r1 m276) := by
     refine NX.sq (TS.sq ?_)
     obtain ⟨r278, h279, hF⟩ := of_do hF
     refine TS.rg (TI.ra 1 [13, 25, 269] (st 289 [(13, iv r5.1), (25, pt 2 0), (269, ag [iv r1.1.1, iv r1.1.2.1, accV 3 m276.length])]) (TI.cp 18 [ag [iv r1.1.1, iv r1.1.2.1, accV 3 m276.length]] (.tuple ⟨[iv r278.1, iv r278.2]⟩) [] (PureSim.ren (hc := [ab 57 e57 m276]) (fun i => List.getD [(3, 0)] i (0, 0)) (C18 _ _ _ _ h279) (.ac (.nil _)) (.cons (Rn.agg' (.fl (.fl (.cons (Rn.accA (i' := 3) (nl rfl) rfl) .nil)))) .nil) (.flat (by kernel_rfl)) newflat_nil) (TI.ra 5 [12, 13, 25, 29] (st 289 [(12, iv r278.2), (13, iv r5.1), (25, pt 2 0), (29, iv r278.1)]) (TI.dn (NX.sq (TS.sq ?_))))))
     obtain ⟨m287, hm288, hF⟩ := of_do hF
     have hK : NX Try.prog 2 2 [.sq c8.s2.s2.s2.s2.s2.s2.s2.s2.s2.s2.s2.s2.s2.s2.s2.s2.s2.s2.s2.s2] (FinP Try.prog Try.f8 2 (V8 2 r) (N8 2 r)) .normal (st 289 [(6, .bool m287)]) (H8_36 p2 p13) := by
      refine NX.sq (TS.rt ?_)
      have hF := sj hF
      subst hF
      exact ⟨.inr rfl, rfl, .bool m287, by kernel_rfl, WkV.flat0 (by kernel_rfl) (nl rfl)⟩
     rcases Bool.eq_false_or_eq_true (r278.2 == 0) with hc280 | hc280
     · replace hm288 := of_pos hm288 hc280
       rcases Bool.eq_false_or_eq_true (r278.1 == (w64 (r5.1 - 1))) with hc281 | hc281
       · replace hm288 := of_pos hm288 hc281
         have hX := of_do hm288
         clear hm288
         obtain ⟨r282, h283, hm288⟩ := hX
         rcases Bool.eq_false_or_eq_true (r282 == 0) with hc284 | hc284
         · replace hm288 := of_pos hm288 hc284
           have hX := of_do hm288
           clear hm288
           obtain ⟨r285, h286, hm288⟩ := hX
           have hm288 := sj hm288
           subst hm288
           refine TS.rg (TI.ra 1 [13, 25, 29, 273] (S8_40 r5 r278) (TI.o { val := .bool true } (q_conv (e := r278.2 == 0) (b := true) (by kernel_rfl) hc280) [13, 25, 29, 274] [0, 1, 2, 3] (S8_39 r5 r278) (H8_33 p2 p13 r1 m276) (TI.ra 4 [25, 275, 276, 278] (S8_38 r278 r5) (TI.o { val := .bool true } (q_conv (e := r278.1 == (w64 (r5.1 - 1))) (b := true) (by kernel_rfl) hc281) [25, 275, 279] [0, 1, 2, 3] (st 289 [(25, pt 2 0), (275, .bool true), (279, .bool true)]) (H8_33 p2 p13 r1 m276) (TI.rn 3 [281, 282] [0, 1, 3] (st 289 [(281, .bool true), (282, ag [iv r1.1.1, iv r1.1.2.1, accV 3 m276.length])]) [ab 5 e5 p2, ab 5 e5 p13, .dead, ab 57 e57 m276] (TI.callM (g := 21) (args := [ag [iv r1.1.1, iv r1.1.2.1, accV 3 m276.length]]) (v := iv r282) (new := []) (by kernel_rfl) (PureSim.ren (hc := [ab 57 e57 m276]) (fun i => List.getD [(3, 0)] i (0, 0)) (C21 _ _ _ _ h283) (.ac (.nil _)) (.cons (Rn.agg' (.fl (.fl (.cons (Rn.accA (i' := 3) (nl rfl) rfl) .nil)))) .nil) (.flat (by kernel_rfl)) newflat_nil) [281, 283] [0, 1] (a2 := (st 289 [(281, .bool true), (283, iv r282)])) (h2 := (H8_36 p2 p13)) (by kernel_rfl) (TI.o { val := .bool true } (q_conv (e := r282 == 0) (b := true) (by kernel_rfl) hc284) [281, 284] [0, 1] (st 289 [(281, .bool true), (284, .bool true)]) (H8_36 p2 p13) (TI.ra 2 [286] (st 289 [(286, .bool true)]) ?_))))))))
           exact TI.cf (C14 _ h286) (TI.ra 2 [6] (st 289 [(6, .bool r285)]) (TI.dn hK))
         replace hm288 := of_neg hm288 hc284
         have hm288 := sj hm288
         subst hm288
         refine TS.rg (TI.ra 1 [13, 25, 29, 273] (S8_40 r5 r278) (TI.o { val := .bool true } (q_conv (e := r278.2 == 0) (b := true) (by kernel_rfl) hc280) [13, 25, 29, 274] [0, 1, 2, 3] (S8_39 r5 r278) (H8_33 p2 p13 r1 m276) (TI.ra 4 [25, 275, 276, 278] (S8_38 r278 r5) (TI.o { val := .bool true } (q_conv (e := r278.1 == (w64 (r5.1 - 1))) (b := true) (by kernel_rfl) hc281) [25, 275, 279] [0, 1, 2, 3] (st 289 [(25, pt 2 0), (275, .bool true), (279, .bool true)]) (H8_33 p2 p13 r1 m276) (TI.rn 3 [281, 282] [0, 1, 3] (st 289 [(281, .bool true), (282, ag [iv r1.1.1, iv r1.1.2.1, accV 3 m276.length])]) [ab 5 e5 p2, ab 5 e5 p13, .dead, ab 57 e57 m276] (TI.callM (g := 21) (args := [ag [iv r1.1.1, iv r1.1.2.1, accV 3 m276.length]]) (v := iv r282) (new := []) (by kernel_rfl) (PureSim.ren (hc := [ab 57 e57 m276]) (fun i => List.getD [(3, 0)] i (0, 0)) (C21 _ _ _ _ h283) (.ac (.nil _)) (.cons (Rn.agg' (.fl (.fl (.cons (Rn.accA (i' := 3) (nl rfl) rfl) .nil)))) .nil) (.flat (by kernel_rfl)) newflat_nil) [281, 283] [0, 1] (a2 := (st 289 [(281, .bool true), (283, iv r282)])) (h2 := (H8_36 p2 p13)) (by kernel_rfl) (TI.o { val := .bool false } (q_conv (e := r282 == 0) (b := false) (by kernel_rfl) hc284) [281, 284] [0, 1] (st 289 [(281, .bool true), (284, .bool false)]) (H8_36 p2 p13) (TI.ra 5 [6] (st 289 [(6, .bool false)]) ?_))))))))
         exact TI.dn hK
       replace hm288 := of_neg hm288 hc281
       have hm288 := sj hm288
       subst hm288
       exact TS.rg (TI.ra 1 [13, 25, 29, 273] (S8_40 r5 r278) (TI.o { val := .bool true } (q_conv (e := r278.2 == 0) (b := true) (by kernel_rfl) hc280) [13, 25, 29, 274] [0, 1, 2, 3] (S8_39 r5 r278) (H8_33 p2 p13 r1 m276) (TI.ra 4 [25, 275, 276, 278] (S8_38 r278 r5) (TI.o { val := .bool false } (q_conv (e := r278.1 == (w64 (r5.1 - 1))) (b := false) (by kernel_rfl) hc281) [25, 275, 279] [0, 1, 2, 3] (st 289 [(25, pt 2 0), (275, .bool true), (279, .bool false)]) (H8_33 p2 p13 r1 m276) (TI.rn 10 [6] [0, 1] (st 289 [(6, .bool false)]) (H8_36 p2 p13) (TI.dn hK))))))
     replace hm288 := of_neg hm288 hc280
     have hm288 := sj hm288
     subst hm288
     exact TS.rg (TI.ra 1 [13, 25, 29, 273] (S8_40 r5 r278) (TI.o { val := .bool false } (q_conv (e := r278.2 == 0) (b := false) (by kernel_rfl) hc280) [13, 25, 29, 274] [0, 1, 2, 3] (st 289 [(13, iv r5.1), (25, pt 2 0), (29, iv r278.1), (274, .bool false)]) (H8_33 p2 p13 r1 m276) (TI.rn 15 [6] [0, 1] (st 289 [(6, .bool false)]) (H8_36 p2 p13) (TI.dn hK))))
    clear hF
    have hF := hm277
    clear hm277
    refine TS.start ?_
    cases m265 with
    | true =>
     replace hF := of_pos hF rfl
     refine TS.cdT (.tmp 245) ?_
     obtain ⟨hg289, hF⟩ := of_guard hF
     obtain ⟨o290, h291, hF⟩ := of_do hF
     replace h291 := sj h291
     obtain ⟨hg292, hF⟩ := of_guard hF
     obtain ⟨o293, h294, hF⟩ := of_do hF
     replace h294 := sj h294
     revert hF
     try unfold H8_14
     generalize r262.2 = ly295
     intro hF
     cases ly295 with
     | nil =>
      obtain ⟨hg296, hF⟩ := of_guard hF
      refine TS.drawE (id := 45) (b := true) (ops := c8.s2.s2.s2.s2.s2.s2.s2.s2.s2.s2.s2.s2.s2.s2.s2.s2.s2.s1.s2.th.rops) (fin := (qs (S8_3 r138 p14 r5 r1 o290 o293) (H8_16 p2 p13 r1 r138 p14 o290 o293) [(19, 8, 9)] [])) (fin2 := (qs (S8_3 r138 p14 r5 r1 o290 o293) (H8_16 p2 p13 r1 r138 p14 o290 o293) [(19, 8, 9)] [])) (a1 := (S8_1 r138 p14 r5 r1 o290 o293)) (h1 := (H8_7 p2 p13 r1 r138 p14 o290 o293)) [] (fun e he => by cases he) mixed (by kernel_rfl) rfl 20 (by kernel_rfl) [] ?_ rfl (.inl ⟨rfl, rfl⟩) ?_ ?_
      · refine QI.run (s1 := (qs (st 289 [(7, pt 2 0), (8, accV 4 r138.1.length), (9, accV 5 r138.2.length), (10, iv (w64 p14)), (13, iv r5.1), (25, pt 6 0), (245, .bool true), (246, pt 6 2), (247, .slice none 0 0), (248, iv (w64 p14)), (249, accV 4 r138.1.length), (250, iv (w64 p14)), (251, pt 2 0), (252, iv r1.1.1)]) (H8_19 p2 p13 r1 r138) [] [])) 7 (by kernel_rfl) (by kernel_rfl) (QI.op (q := { val := iv (Int.tmod (w64 p14) r1.1.1) }) (s1 := (qs (st 289 [(7, pt 2 0), (8, accV 4 r138.1.length), (9, accV 5 r138.2.length), (10, iv (w64 p14)), (13, iv r5.1), (25, pt 6 0), (245, .bool true), (246, pt 6 2), (247, .slice none 0 0), (248, iv (w64 p14)), (249, accV 4 r138.1.length), (250, iv (w64 p14)), (251, pt 2 0), (252, iv r1.1.1), (253, iv (Int.tmod (w64 p14) r1.1.1))]) (H8_19 p2 p13 r1 r138) [] [])) (by decide) (q_int (P := Try.prog) (op := .rem) (ty := 3) (ox := (.tmp 250)) (oy := (.tmp 252)) (k := .i64) (k' := .i64) (y := w64 p14) (z := r1.1.1) (by kernel_rfl) (rem_ok hg39)) (by kernel_rfl) (QI.op (q := { val := .pointer (some ⟨4, 0 + (Int.toNat (Int.tmod (w64 p14) r1.1.1)) * 1, none⟩) }) (s1 := (qs (st 289 [(7, pt 2 0), (8, accV 4 r138.1.length), (9, accV 5 r138.2.length), (10, iv (w64 p14)), (13, iv r5.1), (25, pt 6 0), (245, .bool true), (246, pt 6 2), (247, .slice none 0 0), (248, iv (w64 p14)), (249, accV 4 r138.1.length), (250, iv (w64 p14)), (251, pt 2 0), (252, iv r1.1.1), (253, iv (Int.tmod (w64 p14) r1.1.1)), (254, .pointer (some ⟨4, 0 + (Int.toNat (Int.tmod (w64 p14) r1.1.1)) * 1, none⟩))]) (H8_19 p2 p13 r1 r138) [] [])) (by decide) (q_ixAcc (P := Try.prog) (t := 30) (s := 1) (e := 3) 4 r138.1.length (by kernel_rfl) hg289 (by kernel_rfl) (by kernel_rfl)) (by kernel_rfl) (QI.op (q := { val := iv o290 }) (s1 := (qs (st 289 [(7, pt 2 0), (8, accV 4 r138.1.length), (9, accV 5 r138.2.length), (10, iv (w64 p14)), (13, iv r5.1), (25, pt 6 0), (245, .bool true), (246, pt 6 2), (247, .slice none 0 0), (248, iv (w64 p14)), (249, accV 4 r138.1.length), (250, iv (w64 p14)), (251, pt 2 0), (252, iv r1.1.1), (253, iv (Int.tmod (w64 p14) r1.1.1)), (254, .pointer (some ⟨4, 0 + (Int.toNat (Int.tmod (w64 p14) r1.1.1)) * 1, none⟩)), (255, iv o290)]) (H8_19 p2 p13 r1 r138) [] [])) (by decide) (q_n1a Try.prog (H8_19 p2 p13 r1 r138) 3 4 (0 + (Int.toNat (Int.tmod (w64 p14) r1.1.1)) * 1) r138.1 e3 1 3 (Int.toNat (Int.tmod (w64 p14) r1.1.1)) 0 0 h291) (by kernel_rfl) (QI.run (s1 := (qs (st 289 [(7, pt 2 0), (8, accV 4 r138.1.length), (9, accV 5 r138.2.length), (10, iv (w64 p14)), (13, iv r5.1), (25, pt 6 0), (245, .bool true), (246, pt 6 2), (247, .slice none 0 0), (248, iv (w64 p14)), (249, accV 4 r138.1.length), (250, iv (w64 p14)), (251, pt 2 0), (252, iv r1.1.1), (253, iv (Int.tmod (w64 p14) r1.1.1)), (254, .pointer (some ⟨4, 0 + (Int.toNat (Int.tmod (w64 p14) r1.1.1)) * 1, none⟩)), (255, iv o290), (256, accV 5 r138.2.length), (257, iv (w64 p14)), (258, pt 2 1), (259, iv r1.1.2.1)]) (H8_19 p2 p13 r1 r138) [] [])) 4 (by kernel_rfl) (by kernel_rfl) (QI.op (q := { val := iv (Int.tmod (w64 p14) r1.1.2.1) }) (s1 := (qs (st 289 [(7, pt 2 0), (8, accV 4 r138.1.length), (9, accV 5 r138.2.length), (10, iv (w64 p14)), (13, iv r5.1), (25, pt 6 0), (245, .bool true), (246, pt 6 2), (247, .slice none 0 0), (248, iv (w64 p14)), (249, accV 4 r138.1.length), (250, iv (w64 p14)), (251, pt 2 0), (252, iv r1.1.1), (253, iv (Int.tmod (w64 p14) r1.1.1)), (254, .pointer (some ⟨4, 0 + (Int.toNat (Int.tmod (w64 p14) r1.1.1)) * 1, none⟩)), (255, iv o290), (256, accV 5 r138.2.length), (257, iv (w64 p14)), (258, pt 2 1), (259, iv r1.1.2.1), (260, iv (Int.tmod (w64 p14) r1.1.2.1))]) (H8_19 p2 p13 r1 r138) [] [])) (by decide) (q_int (P := Try.prog) (op := .rem) (ty := 3) (ox := (.tmp 257)) (oy := (.tmp 259)) (k := .i64) (k' := .i64) (y := w64 p14) (z := r1.1.2.1) (by kernel_rfl) (rem_ok hg43)) (by kernel_rfl) (QI.op (q := { val := .pointer (some ⟨5, 0 + (Int.toNat (Int.tmod (w64 p14) r1.1.2.1)) * 1, none⟩) }) (s1 := (qs (st 289 [(7, pt 2 0), (8, accV 4 r138.1.length), (9, accV 5 r138.2.length), (10, iv (w64 p14)), (13, iv r5.1), (25, pt 6 0), (245, .bool true), (246, pt 6 2), (247, .slice none 0 0), (248, iv (w64 p14)), (249, accV 4 r138.1.length), (250, iv (w64 p14)), (251, pt 2 0), (252, iv r1.1.1), (253, iv (Int.tmod (w64 p14) r1.1.1)), (254, .pointer (some ⟨4, 0 + (Int.toNat (Int.tmod (w64 p14) r1.1.1)) * 1, none⟩)), (255, iv o290), (256, accV 5 r138.2.length), (257, iv (w64 p14)), (258, pt 2 1), (259, iv r1.1.2.1), (260, iv (Int.tmod (w64 p14) r1.1.2.1)), (261, .pointer (some ⟨5, 0 + (Int.toNat (Int.tmod (w64 p14) r1.1.2.1)) * 1, none⟩))]) (H8_19 p2 p13 r1 r138) [] [])) (by decide) (q_ixAcc (P := Try.prog) (t := 30) (s := 1) (e := 3) 5 r138.2.length (by kernel_rfl) hg292 (by kernel_rfl) (by kernel_rfl)) (by kernel_rfl) (QI.op (q := { val := iv o293 }) (s1 := (qs (st 289 [(7, pt 2 0), (8, accV 4 r138.1.length), (9, accV 5 r138.2.length), (10, iv (w64 p14)), (13, iv r5.1), (25, pt 6 0), (245, .bool true), (246, pt 6 2), (247, .slice none 0 0), (248, iv (w64 p14)), (249, accV 4 r138.1.length), (250, iv (w64 p14)), (251, pt 2 0), (252, iv r1.1.1), (253, iv (Int.tmod (w64 p14) r1.1.1)), (254, .pointer (some ⟨4, 0 + (Int.toNat (Int.tmod (w64 p14) r1.1.1)) * 1, none⟩)), (255, iv o290), (256, accV 5 r138.2.length), (257, iv (w64 p14)), (258, pt 2 1), (259, iv r1.1.2.1), (260, iv (Int.tmod (w64 p14) r1.1.2.1)), (261, .pointer (some ⟨5, 0 + (Int.toNat (Int.tmod (w64 p14) r1.1.2.1)) * 1, none⟩)), (262, iv o293)]) (H8_19 p2 p13 r1 r138) [] [])) (by decide) (q_n1a Try.prog (H8_19 p2 p13 r1 r138) 3 5 (0 + (Int.toNat (Int.tmod (w64 p14) r1.1.2.1)) * 1) r138.2 e3 1 3 (Int.toNat (Int.tmod (w64 p14) r1.1.2.1)) 0 0 h294) (by kernel_rfl) (QI.run (s1 := (qs (S8_3 r138 p14 r5 r1 o290 o293) (H8_16 p2 p13 r1 r138 p14 o290 o293) [(19, 8, 9)] [])) 3 (by kernel_rfl) (by kernel_rfl) ?_))))))))
        exact QI.done (by kernel_rfl)
      · exact SI.op (q := { val := sv 9 (List.length [(w64 p14, w64 (o290 + o293))]) UNK, new := [.cells 57 (List.flatMap e57 ([(w64 p14, w64 (o290 + o293))]))] }) (a2 := (st 289 [(7, pt 2 0), (8, accV 4 r138.1.length), (9, accV 5 r138.2.length), (10, iv (w64 p14)), (13, iv r5.1), (25, pt 6 0), (245, .bool true), (246, pt 6 2), (247, .slice none 0 0), (248, iv (w64 p14)), (249, accV 4 r138.1.length), (250, iv (w64 p14)), (251, pt 2 0), (252, iv r1.1.1), (253, iv (Int.tmod (w64 p14) r1.1.1)), (254, .pointer (some ⟨4, 0 + (Int.toNat (Int.tmod (w64 p14) r1.1.1)) * 1, none⟩)), (255, iv o290), (256, accV 5 r138.2.length), (257, iv (w64 p14)), (258, pt 2 1), (259, iv r1.1.2.1), (260, iv (Int.tmod (w64 p14) r1.1.2.1)), (261, .pointer (some ⟨5, 0 + (Int.toNat (Int.tmod (w64 p14) r1.1.2.1)) * 1, none⟩)), (262, iv o293), (263, iv (w64 (o290 + o293))), (264, ag [iv (w64 p14), iv (w64 (o290 + o293))]), (265, sv 8 1 1), (266, sv 9 (List.length [(w64 p14, w64 (o290 + o293))]) UNK)])) (h2 := [ab 5 e5 p2, ab 5 e5 p13, cl 24 [iv r1.1.1, iv r1.1.2.1, accV 3 r1.1.2.2.length], ab 57 e57 r1.1.2.2, ab 3 e3 r138.1, ab 3 e3 r138.2, cl 24 [iv r1.1.1, iv r1.1.2.1, .slice none 0 0], .dead, cl 57 [iv (w64 p14), iv (w64 (o290 + o293))], .cells 57 (List.flatMap e57 ([(w64 p14, w64 (o290 + o293))]))]) (by kernel_rfl) (q_appN (P := Try.prog) (base := 2) (hp := (H8_16 p2 p13 r1 r138 p14 o290 o293)) (n := 9) (ts := #[22, 22]) (e := 57) (bytes := 16) (z := ag [iv 0, iv 0]) (y := sv 8 1 1) (ys := [(w64 p14, w64 (o290 + o293))]) (xs := List.flatMap e57 ([(w64 p14, w64 (o290 + o293))])) (m := 1) (s := 2) (enc := e57) (by kernel_rfl) (by kernel_rfl) (by kernel_rfl) (by kernel_rfl) (by kernel_rfl) (by kernel_rfl) (by kernel_rfl) (by kernel_rfl) rfl rfl (by omega)) (by kernel_rfl) (by kernel_rfl) (SI.run (a2 := (S8_1 r138 p14 r5 r1 o290 o293)) (h2 := (H8_7 p2 p13 r1 r138 p14 o290 o293)) 2 (by kernel_rfl) (SI.done (by kernel_rfl)))
      have hF := sj hF
      subst hF
      exact TS.weak (by exact (Wk.an [6, 9] (.ac (.ac (.lt (.fl (.fl (.cons (Rn.accU (nl rfl) rfl (by simp)) .nil))) (.cons (At.accU (by kernel_rfl) rfl (fun _ => rfl)) (.nil _))))) [iv r5.1, pt 6 0] (.fl (.pp .nil)))) hK
     | cons y295 y295s =>
      obtain ⟨hg297, hF⟩ := of_guard hF
      refine TS.drawE (id := 45) (b := true) (ops := c8.s2.s2.s2.s2.s2.s2.s2.s2.s2.s2.s2.s2.s2.s2.s2.s2.s2.s1.s2.th.rops) (fin := (qs (S8_2 r138 p14 r5 y295 y295s r1 o290 o293) (H8_9 p2 p13 r1 r138 y295 y295s p14 o290 o293) [(19, 8, 9)] [])) (fin2 := (qs (S8_2 r138 p14 r5 y295 y295s r1 o290 o293) (H8_9 p2 p13 r1 r138 y295 y295s p14 o290 o293) [(19, 8, 9)] [])) (a1 := (S8_0 r138 p14 r5 y295 y295s r1 o290 o293)) (h1 := (H8_6 p2 p13 r1 r138 y295 y295s p14 o290 o293)) [] (fun e he => by cases he) mixed (by kernel_rfl) rfl 20 (by kernel_rfl) [] ?_ rfl (.inl ⟨rfl, rfl⟩) ?_ ?_
      · refine QI.run (s1 := (qs (st 289 [(7, pt 2 0), (8, accV 4 r138.1.length), (9, accV 5 r138.2.length), (10, iv (w64 p14)), (13, iv r5.1), (25, pt 6 0), (245, .bool true), (246, pt 6 2), (247, sv 7 (List.length (y295 :: y295s)) UNK), (248, iv (w64 p14)), (249, accV 4 r138.1.length), (250, iv (w64 p14)), (251, pt 2 0), (252, iv r1.1.1)]) (H8_12 p2 p13 r1 r138 y295 y295s) [] [])) 7 (by kernel_rfl) (by kernel_rfl) (QI.op (q := { val := iv (Int.tmod (w64 p14) r1.1.1) }) (s1 := (qs (st 289 [(7, pt 2 0), (8, accV 4 r138.1.length), (9, accV 5 r138.2.length), (10, iv (w64 p14)), (13, iv r5.1), (25, pt 6 0), (245, .bool true), (246, pt 6 2), (247, sv 7 (List.length (y295 :: y295s)) UNK), (248, iv (w64 p14)), (249, accV 4 r138.1.length), (250, iv (w64 p14)), (251, pt 2 0), (252, iv r1.1.1), (253, iv (Int.tmod (w64 p14) r1.1.1))]) (H8_12 p2 p13 r1 r138 y295 y295s) [] [])) (by decide) (q_int (P := Try.prog) (op := .rem) (ty := 3) (ox := (.tmp 250)) (oy := (.tmp 252)) (k := .i64) (k' := .i64) (y := w64 p14) (z := r1.1.1) (by kernel_rfl) (rem_ok hg39)) (by kernel_rfl) (QI.op (q := { val := .pointer (some ⟨4, 0 + (Int.toNat (Int.tmod (w64 p14) r1.1.1)) * 1, none⟩) }) (s1 := (qs (st 289 [(7, pt 2 0), (8, accV 4 r138.1.length), (9, accV 5 r138.2.length), (10, iv (w64 p14)), (13, iv r5.1), (25, pt 6 0), (245, .bool true), (246, pt 6 2), (247, sv 7 (List.length (y295 :: y295s)) UNK), (248, iv (w64 p14)), (249, accV 4 r138.1.length), (250, iv (w64 p14)), (251, pt 2 0), (252, iv r1.1.1), (253, iv (Int.tmod (w64 p14) r1.1.1)), (254, .pointer (some ⟨4, 0 + (Int.toNat (Int.tmod (w64 p14) r1.1.1)) * 1, none⟩))]) (H8_12 p2 p13 r1 r138 y295 y295s) [] [])) (by decide) (q_ixAcc (P := Try.prog) (t := 30) (s := 1) (e := 3) 4 r138.1.length (by kernel_rfl) hg289 (by kernel_rfl) (by kernel_rfl)) (by kernel_rfl) (QI.op (q := { val := iv o290 }) (s1 := (qs (st 289 [(7, pt 2 0), (8, accV 4 r138.1.length), (9, accV 5 r138.2.length), (10, iv (w64 p14)), (13, iv r5.1), (25, pt 6 0), (245, .bool true), (246, pt 6 2), (247, sv 7 (List.length (y295 :: y295s)) UNK), (248, iv (w64 p14)), (249, accV 4 r138.1.length), (250, iv (w64 p14)), (251, pt 2 0), (252, iv r1.1.1), (253, iv (Int.tmod (w64 p14) r1.1.1)), (254, .pointer (some ⟨4, 0 + (Int.toNat (Int.tmod (w64 p14) r1.1.1)) * 1, none⟩)), (255, iv o290)]) (H8_12 p2 p13 r1 r138 y295 y295s) [] [])) (by decide) (q_n1a Try.prog (H8_12 p2 p13 r1 r138 y295 y295s) 3 4 (0 + (Int.toNat (Int.tmod (w64 p14) r1.1.1)) * 1) r138.1 e3 1 3 (Int.toNat (Int.tmod (w64 p14) r1.1.1)) 0 0 h291) (by kernel_rfl) (QI.run (s1 := (qs (st 289 [(7, pt 2 0), (8, accV 4 r138.1.length), (9, accV 5 r138.2.length), (10, iv (w64 p14)), (13, iv r5.1), (25, pt 6 0), (245, .bool true), (246, pt 6 2), (247, sv 7 (List.length (y295 :: y295s)) UNK), (248, iv (w64 p14)), (249, accV 4 r138.1.length), (250, iv (w64 p14)), (251, pt 2 0), (252, iv r1.1.1), (253, iv (Int.tmod (w64 p14) r1.1.1)), (254, .pointer (some ⟨4, 0 + (Int.toNat (Int.tmod (w64 p14) r1.1.1)) * 1, none⟩)), (255, iv o290), (256, accV 5 r138.2.length), (257, iv (w64 p14)), (258, pt 2 1), (259, iv r1.1.2.1)]) (H8_12 p2 p13 r1 r138 y295 y295s) [] [])) 4 (by kernel_rfl) (by kernel_rfl) (QI.op (q := { val := iv (Int.tmod (w64 p14) r1.1.2.1) }) (s1 := (qs (st 289 [(7, pt 2 0), (8, accV 4 r138.1.length), (9, accV 5 r138.2.length), (10, iv (w64 p14)), (13, iv r5.1), (25, pt 6 0), (245, .bool true), (246, pt 6 2), (247, sv 7 (List.length (y295 :: y295s)) UNK), (248, iv (w64 p14)), (249, accV 4 r138.1.length), (250, iv (w64 p14)), (251, pt 2 0), (252, iv r1.1.1), (253, iv (Int.tmod (w64 p14) r1.1.1)), (254, .pointer (some ⟨4, 0 + (Int.toNat (Int.tmod (w64 p14) r1.1.1)) * 1, none⟩)), (255, iv o290), (256, accV 5 r138.2.length), (257, iv (w64 p14)), (258, pt 2 1), (259, iv r1.1.2.1), (260, iv (Int.tmod (w64 p14) r1.1.2.1))]) (H8_12 p2 p13 r1 r138 y295 y295s) [] [])) (by decide) (q_int (P := Try.prog) (op := .rem) (ty := 3) (ox := (.tmp 257)) (oy := (.tmp 259)) (k := .i64) (k' := .i64) (y := w64 p14) (z := r1.1.2.1) (by kernel_rfl) (rem_ok hg43)) (by kernel_rfl) (QI.op (q := { val := .pointer (some ⟨5, 0 + (Int.toNat (Int.tmod (w64 p14) r1.1.2.1)) * 1, none⟩) }) (s1 := (qs (st 289 [(7, pt 2 0), (8, accV 4 r138.1.length), (9, accV 5 r138.2.length), (10, iv (w64 p14)), (13, iv r5.1), (25, pt 6 0), (245, .bool true), (246, pt 6 2), (247, sv 7 (List.length (y295 :: y295s)) UNK), (248, iv (w64 p14)), (249, accV 4 r138.1.length), (250, iv (w64 p14)), (251, pt 2 0), (252, iv r1.1.1), (253, iv (Int.tmod (w64 p14) r1.1.1)), (254, .pointer (some ⟨4, 0 + (Int.toNat (Int.tmod (w64 p14) r1.1.1)) * 1, none⟩)), (255, iv o290), (256, accV 5 r138.2.length), (257, iv (w64 p14)), (258, pt 2 1), (259, iv r1.1.2.1), (260, iv (Int.tmod (w64 p14) r1.1.2.1)), (261, .pointer (some ⟨5, 0 + (Int.toNat (Int.tmod (w64 p14) r1.1.2.1)) * 1, none⟩))]) (H8_12 p2 p13 r1 r138 y295 y295s) [] [])) (by decide) (q_ixAcc (P := Try.prog) (t := 30) (s := 1) (e := 3) 5 r138.2.length (by kernel_rfl) hg292 (by kernel_rfl) (by kernel_rfl)) (by kernel_rfl) (QI.op (q := { val := iv o293 }) (s1 := (qs (st 289 [(7, pt 2 0), (8, accV 4 r138.1.length), (9, accV 5 r138.2.length), (10, iv (w64 p14)), (13, iv r5.1), (25, pt 6 0), (245, .bool true), (246, pt 6 2), (247, sv 7 (List.length (y295 :: y295s)) UNK), (248, iv (w64 p14)), (249, accV 4 r138.1.length), (250, iv (w64 p14)), (251, pt 2 0), (252, iv r1.1.1), (253, iv (Int.tmod (w64 p14) r1.1.1)), (254, .pointer (some ⟨4, 0 + (Int.toNat (Int.tmod (w64 p14) r1.1.1)) * 1, none⟩)), (255, iv o290), (256, accV 5 r138.2.length), (257, iv (w64 p14)), (258, pt 2 1), (259, iv r1.1.2.1), (260, iv (Int.tmod (w64 p14) r1.1.2.1)), (261, .pointer (some ⟨5, 0 + (Int.toNat (Int.tmod (w64 p14) r1.1.2.1)) * 1, none⟩)), (262, iv o293)]) (H8_12 p2 p13 r1 r138 y295 y295s) [] [])) (by decide) (q_n1a Try.prog (H8_12 p2 p13 r1 r138 y295 y295s) 3 5 (0 + (Int.toNat (Int.tmod (w64 p14) r1.1.2.1)) * 1) r138.2 e3 1 3 (Int.toNat (Int.tmod (w64 p14) r1.1.2.1)) 0 0 h294) (by kernel_rfl) (QI.run (s1 := (qs (S8_2 r138 p14 r5 y295 y295s r1 o290 o293) (H8_9 p2 p13 r1 r138 y295 y295s p14 o290 o293) [(19, 8, 9)] [])) 3 (by kernel_rfl) (by kernel_rfl) ?_))))))))
        exact QI.done (by kernel_rfl)
      · exact SI.op (q := { val := sv 9 (List.length ((y295 :: y295s) ++ [(w64 p14, w64 (o290 + o293))])) UNK, new := [.cells 57 (List.flatMap e57 ((y295 :: y295s) ++ [(w64 p14, w64 (o290 + o293))]))], upd := some (7, .dead) }) (a2 := (st 289 [(7, pt 2 0), (8, accV 4 r138.1.length), (9, accV 5 r138.2.length), (10, iv (w64 p14)), (13, iv r5.1), (25, pt 6 0), (245, .bool true), (246, pt 6 2), (247, sv 7 (List.length (y295 :: y295s)) UNK), (248, iv (w64 p14)), (249, accV 4 r138.1.length), (250, iv (w64 p14)), (251, pt 2 0), (252, iv r1.1.1), (253, iv (Int.tmod (w64 p14) r1.1.1)), (254, .pointer (some ⟨4, 0 + (Int.toNat (Int.tmod (w64 p14) r1.1.1)) * 1, none⟩)), (255, iv o290), (256, accV 5 r138.2.length), (257, iv (w64 p14)), (258, pt 2 1), (259, iv r1.1.2.1), (260, iv (Int.tmod (w64 p14) r1.1.2.1)), (261, .pointer (some ⟨5, 0 + (Int.toNat (Int.tmod (w64 p14) r1.1.2.1)) * 1, none⟩)), (262, iv o293), (263, iv (w64 (o290 + o293))), (264, ag [iv (w64 p14), iv (w64 (o290 + o293))]), (265, sv 8 1 1), (266, sv 9 (List.length ((y295 :: y295s) ++ [(w64 p14, w64 (o290 + o293))])) UNK)])) (h2 := [ab 5 e5 p2, ab 5 e5 p13, cl 24 [iv r1.1.1, iv r1.1.2.1, accV 3 r1.1.2.2.length], ab 57 e57 r1.1.2.2, ab 3 e3 r138.1, ab 3 e3 r138.2, cl 24 [iv r1.1.1, iv r1.1.2.1, sv 7 (List.length (y295 :: y295s)) UNK], .dead, cl 57 [iv (w64 p14), iv (w64 (o290 + o293))], .cells 57 (List.flatMap e57 ((y295 :: y295s) ++ [(w64 p14, w64 (o290 + o293))]))]) (by kernel_rfl) (q_appU (P := Try.prog) (base := 2) (hp := (H8_9 p2 p13 r1 r138 y295 y295s p14 o290 o293)) (n := 9) (l := (y295 :: y295s)) (b := 7) (ts := #[22, 22]) (e := 57) (bytes := 16) (z := ag [iv 0, iv 0]) (y := sv 8 1 1) (ys := [(w64 p14, w64 (o290 + o293))]) (xs := List.flatMap e57 ([(w64 p14, w64 (o290 + o293))])) (m := 1) (s := 2) (enc := e57) (by kernel_rfl) (by kernel_rfl) (by decide) (by kernel_rfl) (by kernel_rfl) (by kernel_rfl) (by kernel_rfl) (by kernel_rfl) (by kernel_rfl) (by kernel_rfl) (by kernel_rfl) (fun _ => rfl) rfl rfl (by omega)) (by kernel_rfl) (by kernel_rfl) (SI.run (a2 := (S8_0 r138 p14 r5 y295 y295s r1 o290 o293)) (h2 := (H8_6 p2 p13 r1 r138 y295 y295s p14 o290 o293)) 2 (by kernel_rfl) (SI.done (by kernel_rfl)))
      have hF := sj hF
      subst hF
      exact TS.weak (by exact (Wk.an [6, 9] (.ac (.ac (.lt (.fl (.fl (.cons (Rn.accU (nl rfl) rfl (by simp)) .nil))) (.cons (At.accU (by kernel_rfl) rfl (fun _ => rfl)) (.nil _))))) [iv r5.1, pt 6 0] (.fl (.pp .nil)))) hK
    | false =>
     replace hF := of_neg hF rfl
     refine TS.cdF (.tmp 245) (TS.sk ?_)
     have hF := sj hF
     subst hF
     exact TS.weak (by exact (Wk.an [6, 7] (.ac (.ac (.lt (.fl (.fl (.cons (Rn.acc (nl rfl) rfl) .nil))) (.ac (.nil _))))) [iv r5.1, pt 6 0] (.fl (.pp .nil)))) hK
   rcases Bool.eq_false_or_eq_true (r262.1) with hc264 | hc264
   · replace hm298 := of_pos hm298 hc264
     have hm298 := sj hm298
     subst hm298
     exact TS.rg (TI.o { val := .bool true } (q_conv (e := r262.1) (b := true) (by kernel_rfl) hc264) [7, 8, 9, 10, 13, 25, 244] [0, 1, 2, 3, 4, 5, 6, 7] (st 289 [(7, pt 2 0), (8, accV 4 r138.1.length), (9, accV 5 r138.2.length), (10, iv (w64 p14)), (13, iv r5.1), (25, pt 6 0), (244, .bool true)]) (H8_14 p2 p13 r1 r138 r262) (TI.ra 1 [7, 8, 9, 10, 13, 25, 245] (st 289 [(7, pt 2 0), (8, accV 4 r138.1.length), (9, accV 5 r138.2.length), (10, iv (w64 p14)), (13, iv r5.1), (25, pt 6 0), (245, .bool false)]) (TI.dn hK)))
   replace hm298 := of_neg hm298 hc264
   have hm298 := sj hm298
   subst hm298
   exact TS.rg (TI.o { val := .bool false } (q_conv (e := r262.1) (b := false) (by kernel_rfl) hc264) [7, 8, 9, 10, 13, 25, 244] [0, 1, 2, 3, 4, 5, 6, 7] (st 289 [(7, pt 2 0), (8, accV 4 r138.1.length), (9, accV 5 r138.2.length), (10, iv (w64 p14)), (13, iv r5.1), (25, pt 6 0), (244, .bool false)]) (H8_14 p2 p13 r1 r138 r262) (TI.ra 1 [7, 8, 9, 10, 13, 25, 245] (st 289 [(7, pt 2 0), (8, accV 4 r138.1.length), (9, accV 5 r138.2.length), (10, iv (w64 p14)), (13, iv r5.1), (25, pt 6 0), (245, .bool true)]) (TI.dn hK)))
 rcases Bool.eq_false_or_eq_true (r5.2 != 0) with hc34 | hc34
 · replace hm299 := of_pos hm299 hc34
   have hm299 := sj hm299
   subst hm299
   exact TS.rg (TI.ra 1 [2, 7, 8, 9, 10, 11, 12, 13, 15, 16, 64] (S8_32 p15 r1 p14 r3 r5 r7 r32) (TI.o { val := .bool true } (q_conv (e := r5.2 != 0) (b := true) (by kernel_rfl) hc34) [2, 7, 8, 9, 10, 11, 12, 13, 15, 16, 65] [0, 1, 2, 3, 4, 5, 6] (st 289 [(2, .int .u8 p15), (7, pt 2 0), (8, accV 4 r1.2.1.length), (9, accV 5 r1.2.2.length), (10, iv (w64 p14)), (11, iv r3.1), (12, iv r3.2), (13, iv r5.1), (15, mkV 6 r7.length), (16, iv r32), (65, .bool true)]) (H8_20 p2 p13 r1 r7) (TI.ra 10 [2, 7, 8, 9, 10, 11, 12, 13, 15, 75] (st 289 [(2, .int .u8 p15), (7, pt 2 0), (8, accV 4 r1.2.1.length), (9, accV 5 r1.2.2.length), (10, iv (w64 p14)), (11, iv r3.1), (12, iv r3.2), (13, iv r5.1), (15, mkV 6 r7.length), (75, .bool true)]) (TI.dn hK))))
 replace hm299 := of_neg hm299 hc34
 rcases Bool.eq_false_or_eq_true (r5.1 != r32) with hc35 | hc35
 · replace hm299 := of_pos hm299 hc35
   have hm299 := sj hm299
   subst hm299
   exact TS.rg (TI.ra 1 [2, 7, 8, 9, 10, 11, 12, 13, 15, 16, 64] (S8_32 p15 r1 p14 r3 r5 r7 r32) (TI.o { val := .bool false } (q_conv (e := r5.2 != 0) (b := false) (by kernel_rfl) hc34) [2, 7, 8, 9, 10, 11, 12, 13, 15, 16, 65] [0, 1, 2, 3, 4, 5, 6] (st 289 [(2, .int .u8 p15), (7, pt 2 0), (8, accV 4 r1.2.1.length), (9, accV 5 r1.2.2.length), (10, iv (w64 p14)), (11, iv r3.1), (12, iv r3.2), (13, iv r5.1), (15, mkV 6 r7.length), (16, iv r32), (65, .bool false)]) (H8_20 p2 p13 r1 r7) (TI.ra 3 [2, 7, 8, 9, 10, 11, 12, 13, 15, 66, 67, 68] (st 289 [(2, .int .u8 p15), (7, pt 2 0), (8, accV 4 r1.2.1.length), (9, accV 5 r1.2.2.length), (10, iv (w64 p14)), (11, iv r3.1), (12, iv r3.2), (13, iv r5.1), (15, mkV 6 r7.length), (66, .bool false), (67, iv r5.1), (68, iv r32)]) (TI.o { val := .bool true } (q_conv (e := r5.1 != r32) (b := true) (by kernel_rfl) hc35) [2, 7, 8, 9, 10, 11, 12, 13, 15, 66, 69] [0, 1, 2, 3, 4, 5, 6] (st 289 [(2, .int .u8 p15), (7, pt 2 0), (8, accV 4 r1.2.1.length), (9, accV 5 r1.2.2.length), (10, iv (w64 p14)), (11, iv r3.1), (12, iv r3.2), (13, iv r5.1), (15, mkV 6 r7.length), (66, .bool false), (69, .bool true)]) (H8_20 p2 p13 r1 r7) (TI.ra 6 [2, 7, 8, 9, 10, 11, 12, 13, 15, 75] (st 289 [(2, .int .u8 p15), (7, pt 2 0), (8, accV 4 r1.2.1.length), (9, accV 5 r1.2.2.length), (10, iv (w64 p14)), (11, iv r3.1), (12, iv r3.2), (13, iv r5.1), (15, mkV 6 r7.length), (75, .bool true)]) (TI.dn hK))))))
 replace hm299 := of_neg hm299 hc35
 have hX := of_do hm299
 clear hm299
 obtain ⟨r36, h37, hm299⟩ := hX
 have hm299 := sj hm299
 subst hm299
 refine TS.rg (TI.ra 1 [2, 7, 8, 9, 10, 11, 12, 13, 15, 16, 64] (S8_32 p15 r1 p14 r3 r5 r7 r32) (TI.o { val := .bool false } (q_conv (e := r5.2 != 0) (b := false) (by kernel_rfl) hc34) [2, 7, 8, 9, 10, 11, 12, 13, 15, 16, 65] [0, 1, 2, 3, 4, 5, 6] (st 289 [(2, .int .u8 p15), (7, pt 2 0), (8, accV 4 r1.2.1.length), (9, accV 5 r1.2.2.length), (10, iv (w64 p14)), (11, iv r3.1), (12, iv r3.2), (13, iv r5.1), (15, mkV 6 r7.length), (16, iv r32), (65, .bool false)]) (H8_20 p2 p13 r1 r7) (TI.ra 3 [2, 7, 8, 9, 10, 11, 12, 13, 15, 66, 67, 68] (st 289 [(2, .int .u8 p15), (7, pt 2 0), (8, accV 4 r1.2.1.length), (9, accV 5 r1.2.2.length), (10, iv (w64 p14)), (11, iv r3.1), (12, iv r3.2), (13, iv r5.1), (15, mkV 6 r7.length), (66, .bool false), (67, iv r5.1), (68, iv r32)]) (TI.o { val := .bool false } (q_conv (e := r5.1 != r32) (b := false) (by kernel_rfl) hc35) [2, 7, 8, 9, 10, 11, 12, 13, 15, 66, 69] [0, 1, 2, 3, 4, 5, 6] (st 289 [(2, .int .u8 p15), (7, pt 2 0), (8, accV 4 r1.2.1.length), (9, accV 5 r1.2.2.length), (10, iv (w64 p14)), (11, iv r3.1), (12, iv r3.2), (13, iv r5.1), (15, mkV 6 r7.length), (66, .bool false), (69, .bool false)]) (H8_20 p2 p13 r1 r7) (TI.ra 3 [2, 7, 8, 9, 10, 11, 12, 13, 15, 71, 72] (st 289 [(2, .int .u8 p15), (7, pt 2 0), (8, accV 4 r1.2.1.length), (9, accV 5 r1.2.2.length), (10, iv (w64 p14)), (11, iv r3.1), (12, iv r3.2), (13, iv r5.1), (15, mkV 6 r7.length), (71, .bool false), (72, ag [iv r1.1.1, iv r1.1.2.1, accV 3 r1.1.2.2.length])]) (TI.cp 21 [ag [iv r1.1.1, iv r1.1.2.1, accV 3 r1.1.2.2.length]] (iv r36) [] (PureSim.ren (hc := (H8_41 r1)) (fun i => List.getD [(3, 0)] i (0, 0)) (C21 _ _ _ _ h37) (.ac (.nil _)) (.cons (Rn.agg' (.fl (.fl (.cons (Rn.accA (i' := 3) (nl rfl) rfl) .nil)))) .nil) (.flat (by kernel_rfl)) newflat_nil) (TI.ra 2 [2, 7, 8, 9, 10, 11, 12, 13, 15, 75] (st 289 [(2, .int .u8 p15), (7, pt 2 0), (8, accV 4 r1.2.1.length), (9, accV 5 r1.2.2.length), (10, iv (w64 p14)), (11, iv r3.1), (12, iv r3.2), (13, iv r5.1), (15, mkV 6 r7.length), (75, .bool (r36 != 0))]) (TI.dn ?_))))))))
 exact hK
theorem C8 (p0 p1 : Int) (p2 : List Int) (p3 p4 p5 p6 p7 p8 p9 p10 p11 p12 : Int) (p13 : List Int) (p14 p15 : Int) (r : Bool) (hF : F8 p0 p1 p2 p3 p4 p5 p6 p7 p8 p9 p10 p11 p12 p13 p14 p15 = some r) : PureSim Try.prog 8 [ag [.int .u8 p0, .int .u8 p1, sv 0 p2.length ANY, .int .u8 p3, .int .u8 p4, .int .u8 p5, .int .u8 p6, .int .u8 p7, .int .u8 p8, .int .u8 p9, .int .u8 p10, .int .u8 p11, .int .u8 p12, sv 1 p13.length ANY], .int .u8 p14, .int .u8 p15] (H8_37 p2 p13) (V8 2 r) (N8 2 r) :=
 PureSim.of_Fin Try.func8 (c := c8) (by kernel_rfl) (by kernel_rfl) 2 rfl [0, 1, 2] [0, 1] (by kernel_rfl) (B8 p0 p1 p2 p3 p4 p5 p6 p7 p8 p9 p10 p11 p12 p13 p14 p15 r hF)
end
end Go.Proofs.Ytdekbjfjbbdjgaa
