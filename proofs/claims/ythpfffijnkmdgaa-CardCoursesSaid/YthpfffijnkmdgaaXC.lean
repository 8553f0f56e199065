/- Parts of the sort of many elements. -/
import Derived.Test.YthpfffijnkmdgaaXU
set_option linter.unusedVariables false
set_option linter.unusedSimpArgs false
set_option maxRecDepth 100000
set_option maxHeartbeats 4000000
namespace Go.Proofs.Ythpfffijnkmdgaa
open Go Go.Cl
noncomputable def c120 : Code := Try.f120.code
def H120_0 (p0 : List I2) (p1 : Int) : List Blk := [lb101 p0, cl 161 [.int .u64 (xoru (xoru (xoru p1 (shlu p1 13)) (shru (xoru p1 (shlu p1 13)) 7)) (shlu (xoru (xoru p1 (shlu p1 13)) (shru (xoru p1 (shlu p1 13)) 7)) 17))]]
def F120 (p1 : Int) : Option I2 :=
 if (0 : Int) ≤ 13 then
  if (0 : Int) ≤ 7 then
   if (0 : Int) ≤ 17 then
    some (xoru (xoru (xoru p1 (shlu p1 13)) (shru (xoru p1 (shlu p1 13)) 7)) (shlu (xoru (xoru p1 (shlu p1 13)) (shru (xoru p1 (shlu p1 13)) 7)) 17)) >>= fun o4 =>
    some (o4, xoru (xoru (xoru p1 (shlu p1 13)) (shru (xoru p1 (shlu p1 13)) 7)) (shlu (xoru (xoru p1 (shlu p1 13)) (shru (xoru p1 (shlu p1 13)) 7)) 17))
   else none
  else none
 else none
theorem B120 (p0 : List I2) (p1 : Int) (r : I2) (hF : F120 p1 = some r) : TS Pg 0 2 c120 (st 33 [(0, pt 1 0)]) [lb101 p0, cl 161 [.int .u64 p1]] (NX Pg 0 2 [] (SortFin Pg Try.f120 [lb101 p0, cl 161 [.int .u64 r.2]] (.int .u64 r.1))) := by
 unfold F120 at hF
 refine TS.sq (TS.rg (TI.ra 1 [0] (st 33 [(0, pt 1 0)]) (TI.dq (TS.sq ?_))))
 obtain ⟨hg1, hF⟩ := of_guard hF
 refine TS.dp [] (fun e he => by cases he) mixed 7 [0] [0, 1] (st 33 [(0, pt 1 0)]) [lb101 p0, cl 161 [.int .u64 (xoru p1 (shlu p1 13))]] ?_ ?_
 · exact QJ.rn (qs (st 33 [(0, pt 1 0), (3, pt 1 0), (4, pt 1 0), (5, .int .u64 p1), (6, pt 1 0), (7, pt 1 0), (8, .int .u64 p1)]) [lb101 p0, cl 161 [.int .u64 p1]] [] []) 6 (QJ.o { val := .int .u64 (shlu p1 13) } (q_shlu (P := Pg) (ty := 161) (ox := (.tmp 8)) (oy := (.const (.int .u64 13))) (by kernel_rfl) hg1) (QJ.dn ⟨rfl, (SJ.o { val := .int .u64 (xoru p1 (shlu p1 13)) } (q_xoru (P := Pg) (ty := 161) (ox := (.tmp 5)) (oy := (.tmp 9)) (by kernel_rfl)) SJ.la)⟩))
 refine TS.sq ?_
 obtain ⟨hg2, hF⟩ := of_guard hF
 refine TS.dp [] (fun e he => by cases he) mixed 7 [0] [0, 1] (st 33 [(0, pt 1 0)]) [lb101 p0, cl 161 [.int .u64 (xoru (xoru p1 (shlu p1 13)) (shru (xoru p1 (shlu p1 13)) 7))]] ?_ ?_
 · exact QJ.rn (qs (st 33 [(0, pt 1 0), (12, pt 1 0), (13, pt 1 0), (14, .int .u64 (xoru p1 (shlu p1 13))), (15, pt 1 0), (16, pt 1 0), (17, .int .u64 (xoru p1 (shlu p1 13)))]) [lb101 p0, cl 161 [.int .u64 (xoru p1 (shlu p1 13))]] [] []) 6 (QJ.o { val := .int .u64 (shru (xoru p1 (shlu p1 13)) 7) } (q_shru (P := Pg) (ty := 161) (ox := (.tmp 17)) (oy := (.const (.int .u64 7))) (by kernel_rfl) hg2) (QJ.dn ⟨rfl, (SJ.o { val := .int .u64 (xoru (xoru p1 (shlu p1 13)) (shru (xoru p1 (shlu p1 13)) 7)) } (q_xoru (P := Pg) (ty := 161) (ox := (.tmp 14)) (oy := (.tmp 18)) (by kernel_rfl)) SJ.la)⟩))
 refine TS.sq ?_
 obtain ⟨hg3, hF⟩ := of_guard hF
 refine TS.dp [] (fun e he => by cases he) mixed 7 [0] [0, 1] (st 33 [(0, pt 1 0)]) (H120_0 p0 p1) ?_ ?_
 · exact QJ.rn (qs (st 33 [(0, pt 1 0), (21, pt 1 0), (22, pt 1 0), (23, .int .u64 (xoru (xoru p1 (shlu p1 13)) (shru (xoru p1 (shlu p1 13)) 7))), (24, pt 1 0), (25, pt 1 0), (26, .int .u64 (xoru (xoru p1 (shlu p1 13)) (shru (xoru p1 (shlu p1 13)) 7)))]) [lb101 p0, cl 161 [.int .u64 (xoru (xoru p1 (shlu p1 13)) (shru (xoru p1 (shlu p1 13)) 7))]] [] []) 6 (QJ.o { val := .int .u64 (shlu (xoru (xoru p1 (shlu p1 13)) (shru (xoru p1 (shlu p1 13)) 7)) 17) } (q_shlu (P := Pg) (ty := 161) (ox := (.tmp 26)) (oy := (.const (.int .u64 17))) (by kernel_rfl) hg3) (QJ.dn ⟨rfl, (SJ.o { val := .int .u64 (xoru (xoru (xoru p1 (shlu p1 13)) (shru (xoru p1 (shlu p1 13)) 7)) (shlu (xoru (xoru p1 (shlu p1 13)) (shru (xoru p1 (shlu p1 13)) 7)) 17)) } (q_xoru (P := Pg) (ty := 161) (ox := (.tmp 23)) (oy := (.tmp 27)) (by kernel_rfl)) SJ.la)⟩))
 refine TS.sq ?_
 obtain ⟨o4, h5, hF⟩ := of_do hF
 replace h5 := sj h5
 refine TS.rg (TI.ra 2 [0, 31] (st 33 [(0, pt 1 0), (31, pt 1 0)]) (TI.o { val := .int .u64 o4 } (q_convI (e := xoru (xoru (xoru p1 (shlu p1 13)) (shru (xoru p1 (shlu p1 13)) 7)) (shlu (xoru (xoru p1 (shlu p1 13)) (shru (xoru p1 (shlu p1 13)) 7)) 17)) (y := o4) (by kernel_rfl) h5) [0, 32] [0, 1] (st 33 [(0, pt 1 0), (32, .int .u64 o4)]) (H120_0 p0 p1) (TI.ra 1 [0, 2] (st 33 [(0, pt 1 0), (2, .int .u64 o4)]) (TI.dq (TS.rt ?_)))))
 have hF := sj hF
 subst hF
 exact ⟨.inr rfl, rfl, rfl, by kernel_rfl⟩
theorem C120 (p0 : List I2) (k : Nat) (hk : List.length p0 = k) (p1 : Int) (r : I2) (hF : F120 p1 = some r) : ImpSim Pg 120 [pt 1 0] 0 [lb101 p0, cl 161 [.int .u64 p1]] (.int .u64 r.1) [lb101 p0, cl 161 [.int .u64 r.2]] := by
 subst hk
 exact ImpSim.of_TS (fn := Try.f120) (c := c120) (by kernel_rfl) (by kernel_rfl) (by kernel_rfl) (Nat.le_refl _) (TS.weak (a2 := (st 33 [(0, pt 1 0)])) (h2 := [lb101 p0, cl 161 [.int .u64 p1]]) (Eq.mp (by kernel_rfl) (Wk.tm (P := Pg) (base := 0) (L := 2) (a := { tmps := [pt 1 0] ++ List.replicate 32 undef }) (h := [lb101 p0, cl 161 [.int .u64 p1]]) [0])) (B120 p0 p1 r hF))
noncomputable def c112 : Code := Try.f112.code
def S112_7 (v27 : List I2) (p1 p2 r2 v26 m60 : Int) : CAct := (st 67 [(0, anyV 0 v27.length), (1, iv p1), (8, iv (w64 (p2 - p1))), (9, pt 1 0), (10, .int .u64 r2), (11, iv v26), (12, iv m60), (49, anyV 0 v27.length), (50, iv v26), (51, anyV 0 v27.length), (52, iv p1), (53, iv m60), (54, iv (w64 (p1 + m60))), (55, anyV 0 v27.length), (56, iv p1), (57, iv m60), (58, iv (w64 (p1 + m60)))])
def S112_6 (v27 : List I2) (p1 p2 r2 v26 m60 : Int) : CAct := sx (S112_7 v27 p1 p2 r2 v26 m60) [(59, pt 0 (0 + (w64 (p1 + m60)).toNat * 2))]
def S112_5 (v27 : List I2) (p1 p2 r2 v26 m60 : Int) (o63 : I2) : CAct := sx (S112_6 v27 p1 p2 r2 v26 m60) [(60, ag [iv o63.1, iv o63.2])]
def S112_4 (v27 : List I2) (p1 p2 r2 v26 m60 : Int) (o63 : I2) : CAct := sx (S112_5 v27 p1 p2 r2 v26 m60 o63) [(61, anyV 0 v27.length), (62, iv v26)]
def S112_3 (v27 : List I2) (p1 p2 r2 v26 m60 : Int) (o63 : I2) : CAct := sx (S112_4 v27 p1 p2 r2 v26 m60 o63) [(63, pt 0 (0 + v26.toNat * 2))]
def S112_2 (v27 : List I2) (p1 p2 r2 v26 m60 : Int) (o63 o66 : I2) : CAct := sx (S112_3 v27 p1 p2 r2 v26 m60 o63) [(64, ag [iv o66.1, iv o66.2])]
def S112_1 (v27 : List I2) (p1 p2 r2 v26 m60 : Int) (o63 o66 : I2) : CAct := sx (S112_2 v27 p1 p2 r2 v26 m60 o63 o66) [(65, pt 0 (0 + v26.toNat * 2))]
def S112_0 (v27 : List I2) (p1 p2 r2 v26 m60 : Int) (o63 o66 : I2) : CAct := sx (S112_1 v27 p1 p2 r2 v26 m60 o63 o66) [(66, pt 0 (0 + (w64 (p1 + m60)).toNat * 2))]
def H112_8 (v27 : List I2) (v26 : Int) (o63 : I2) (p1 m60 : Int) (o66 r54 : I2) : List Blk := [lb101 (List.set (List.set v27 v26.toNat (o63.1, o63.2)) (w64 (p1 + m60)).toNat (o66.1, o66.2)), cl 161 [.int .u64 r54.2]]
def H112_9 (v27 : List I2) (v26 : Int) (o63 r54 : I2) : List Blk := [lb101 (List.set v27 v26.toNat (o63.1, o63.2)), cl 161 [.int .u64 r54.2]]
def H112_10 (p0 : List I2) (p2 p1 : Int) : List Blk := [lb101 p0, cl 161 [.int .u64 (IntKind.wrap .u64 (w64 (p2 - p1)))]]
def H112_11 (v27 : List I2) (r54 : I2) : List Blk := [lb101 v27, cl 161 [.int .u64 r54.2]]
def F112l0 (p1 p2 r2 v26 : Int) (v27 : List I2) (v28 : Int) : Option (List I2) :=
 some (w64 ((w64 (p1 + (w64 ((w64 (Int.tdiv (w64 (p2 - p1)) 4)) * 2)))) + 1)) >>= fun o50 =>
 if decide (v26 ≤ o50) then
  F120 v28 >>= fun r54 =>
  (
   if decide ((w64 (andu r54.1 (IntKind.wrap .u64 (r2 - 1)))) ≥ (w64 (p2 - p1))) then
    some (w64 ((w64 (andu r54.1 (IntKind.wrap .u64 (r2 - 1)))) - (w64 (p2 - p1)))) >>= fun o69 =>
    some o69
   else
    some (w64 (andu r54.1 (IntKind.wrap .u64 (r2 - 1))))
  : Option Int) >>= fun m60 =>
  if (0 : Int) ≤ w64 (p1 + m60) ∧ w64 (p1 + m60) < (v27.length : Int) then
   some (List.getD v27 (w64 (p1 + m60)).toNat (0, 0)) >>= fun o63 =>
   if (0 : Int) ≤ v26 ∧ v26 < (v27.length : Int) then
    some (List.getD v27 v26.toNat (0, 0)) >>= fun o66 =>
    F112l0 p1 p2 r2 (w64 (v26 + 1)) (List.set (List.set v27 v26.toNat (o63.1, o63.2)) (w64 (p1 + m60)).toNat (o66.1, o66.2)) r54.2
   else none
  else none
 else
  some v27
 partial_fixpoint
def F112 (p0 : List I2) (p1 p2 : Int) : Option (List I2) :=
 if decide ((w64 (p2 - p1)) ≥ 8) then
  F119 (w64 (p2 - p1)) >>= fun r2 =>
  some (w64 ((w64 (p1 + (w64 ((w64 (Int.tdiv (w64 (p2 - p1)) 4)) * 2)))) - 1)) >>= fun o4 =>
  F112l0 p1 p2 r2 o4 p0 (IntKind.wrap .u64 (w64 (p2 - p1))) >>= fun r71 =>
  some (r71)
 else
  some (p0)
def P112l0 (p1 p2 r2 : Int) (r : List I2) : Post := fun e a h => e = .exit 0 ∧ Wk Pg 0 1 a h (st 67 [(0, anyV 0 r.length)]) [lb101 r]
theorem L112l0 (p1 p2 r2 v26 : Int) (v27 : List I2) (v28 : Int) (r : List I2) (hF : F112l0 p1 p2 r2 v26 v27 v28 = some r) : TL Pg 0 1 c112.s2.s2.th.s2.s2.s2.bd.bd (st 67 [(0, anyV 0 v27.length), (1, iv p1), (8, iv (w64 (p2 - p1))), (9, pt 1 0), (10, .int .u64 r2), (11, iv v26)]) [lb101 v27, cl 161 [.int .u64 v28]] (P112l0 p1 p2 r2 r) := by
 refine F112l0.partial_correctness p1 p2 r2 (motive := fun v26 v27 v28 r => TL Pg 0 1 c112.s2.s2.th.s2.s2.s2.bd.bd (st 67 [(0, anyV 0 v27.length), (1, iv p1), (8, iv (w64 (p2 - p1))), (9, pt 1 0), (10, .int .u64 r2), (11, iv v26)]) [lb101 v27, cl 161 [.int .u64 v28]] (P112l0 p1 p2 r2 r)) ?_ v26 v27 v28 r hF
 clear hF r v26 v27 v28
 intro again ih v26 v27 v28 r hF
 refine TL.round (TS.sq (TS.sq ?_))
 obtain ⟨o50, h51, hF⟩ := of_do hF
 replace h51 := sj h51
 refine TS.rg (TI.ra 6 [0, 1, 8, 9, 10, 11, 28, 33] (st 67 [(0, anyV 0 v27.length), (1, iv p1), (8, iv (w64 (p2 - p1))), (9, pt 1 0), (10, .int .u64 r2), (11, iv v26), (28, iv v26), (33, iv (w64 (p1 + (w64 ((w64 (Int.tdiv (w64 (p2 - p1)) 4)) * 2)))))]) (TI.o { val := iv o50 } (q_convI (e := w64 ((w64 (p1 + (w64 ((w64 (Int.tdiv (w64 (p2 - p1)) 4)) * 2)))) + 1)) (y := o50) (by kernel_rfl) h51) [0, 1, 8, 9, 10, 11, 28, 34] [0, 1] (st 67 [(0, anyV 0 v27.length), (1, iv p1), (8, iv (w64 (p2 - p1))), (9, pt 1 0), (10, .int .u64 r2), (11, iv v26), (28, iv v26), (34, iv o50)]) [lb101 v27, cl 161 [.int .u64 v28]] (TI.ra 1 [0, 1, 8, 9, 10, 11, 35] (st 67 [(0, anyV 0 v27.length), (1, iv p1), (8, iv (w64 (p2 - p1))), (9, pt 1 0), (10, .int .u64 r2), (11, iv v26), (35, .bool (decide (v26 ≤ o50)))]) (TI.dq ?_))))
 refine TS.cd (.tmp 35) (decide (v26 ≤ o50)) (fun hc53 => ?_) (fun hc53 => ?_)
 · replace hF := of_pos hF hc53
   refine TS.sk (NX.sq (TS.sq (TS.bk 1 (TS.sq ?_))))
   obtain ⟨r54, h55, hF⟩ := of_do hF
   refine TS.rg ?_
   refine TI.icallM (g := 120) (args := [pt 1 0]) (v := .int .u64 r54.1) (h1 := (H112_11 v27 r54)) (by kernel_rfl) (C120 _ _ (by first | rfl | simp only [List.length_set]) _ _ h55) [0, 1, 8, 9, 10, 11, 38] [0, 1] (a2 := (st 67 [(0, anyV 0 v27.length), (1, iv p1), (8, iv (w64 (p2 - p1))), (9, pt 1 0), (10, .int .u64 r2), (11, iv v26), (38, .int .u64 r54.1)])) (h2 := (H112_11 v27 r54)) (by kernel_rfl) (TI.ra 2 [0, 1, 8, 9, 10, 11, 38, 40] (st 67 [(0, anyV 0 v27.length), (1, iv p1), (8, iv (w64 (p2 - p1))), (9, pt 1 0), (10, .int .u64 r2), (11, iv v26), (38, .int .u64 r54.1), (40, .int .u64 (IntKind.wrap .u64 (r2 - 1)))]) (TI.o { val := .int .u64 (andu r54.1 (IntKind.wrap .u64 (r2 - 1))) } (q_andu (P := Pg) (ty := 141) (ox := (.tmp 38)) (oy := (.tmp 40)) (by kernel_rfl)) [0, 1, 8, 9, 10, 11, 41] [0, 1] (st 67 [(0, anyV 0 v27.length), (1, iv p1), (8, iv (w64 (p2 - p1))), (9, pt 1 0), (10, .int .u64 r2), (11, iv v26), (41, .int .u64 (andu r54.1 (IntKind.wrap .u64 (r2 - 1))))]) (H112_11 v27 r54) (TI.ra 2 [0, 1, 8, 9, 10, 11, 12] (st 67 [(0, anyV 0 v27.length), (1, iv p1), (8, iv (w64 (p2 - p1))), (9, pt 1 0), (10, .int .u64 r2), (11, iv v26), (12, iv (w64 (andu r54.1 (IntKind.wrap .u64 (r2 - 1)))))]) (TI.dq (TS.sq (TS.sq (TS.rg ?_)))))))
   refine TI.ra 3 [0, 1, 8, 9, 10, 11, 12, 45] (st 67 [(0, anyV 0 v27.length), (1, iv p1), (8, iv (w64 (p2 - p1))), (9, pt 1 0), (10, .int .u64 r2), (11, iv v26), (12, iv (w64 (andu r54.1 (IntKind.wrap .u64 (r2 - 1))))), (45, .bool (decide ((w64 (andu r54.1 (IntKind.wrap .u64 (r2 - 1)))) ≥ (w64 (p2 - p1)))))]) (TI.dq ?_)
   obtain ⟨m60, hm61, hF⟩ := of_do hF
   have hK : NX Pg 0 1 [.sq c112.s2.s2.th.s2.s2.s2.bd.bd.s2.s1.bd.s2.s2, .bk 1, .sq c112.s2.s2.th.s2.s2.s2.bd.bd.s2.s2] (Rd Pg 0 1 c112.s2.s2.th.s2.s2.s2.bd.bd (P112l0 p1 p2 r2 r)) .normal (st 67 [(0, anyV 0 v27.length), (1, iv p1), (8, iv (w64 (p2 - p1))), (9, pt 1 0), (10, .int .u64 r2), (11, iv v26), (12, iv m60)]) (H112_11 v27 r54) := by
    refine NX.sq ?_
    obtain ⟨hg62, hF⟩ := of_guard hF
    obtain ⟨o63, h64, hF⟩ := of_do hF
    replace h64 := sj h64
    obtain ⟨hg65, hF⟩ := of_guard hF
    obtain ⟨o66, h67, hF⟩ := of_do hF
    replace h67 := sj h67
    refine TS.drawE (id := 10) (b := true) (ops := c112.s2.s2.th.s2.s2.s2.bd.bd.s2.s1.bd.s2.s2.rops) (fin := (qs (S112_1 v27 p1 p2 r2 v26 m60 o63 o66) (H112_9 v27 v26 o63 r54) [] [(17, 0)])) (fin2 := (qs (S112_1 v27 p1 p2 r2 v26 m60 o63 o66) (H112_9 v27 v26 o63 r54) [] [(17, 0)])) (a1 := (S112_0 v27 p1 p2 r2 v26 m60 o63 o66)) (h1 := (H112_8 v27 v26 o63 p1 m60 o66 r54)) [] (fun e he => by cases he) mixed (by kernel_rfl) rfl 18 (by kernel_rfl) [(17, 0)] ?_ rfl (.inr ⟨?_, (by kernel_rfl)⟩) ?_ ?_
    iterate 2
     · refine QI.r (qs (S112_7 v27 p1 p2 r2 v26 m60) (H112_11 v27 r54) [] []) 10 (QI.o { val := pt 0 (0 + (w64 (p1 + m60)).toNat * 2) } (qs (S112_6 v27 p1 p2 r2 v26 m60) (H112_11 v27 r54) [] []) (q_ixS 0 0 ((w64 (p1 + m60)).toNat * 2) (by kernel_rfl) hg62) (QI.o { val := ag [iv o63.1, iv o63.2] } (qs (S112_5 v27 p1 p2 r2 v26 m60 o63) (H112_11 v27 r54) [] []) (q_nA Pg (H112_11 v27 r54) 101 0 (0 + (w64 (p1 + m60)).toNat * 2) v27 e101 2 101 (w64 (p1 + m60)).toNat (0, 0) h64) (QI.r (qs (S112_4 v27 p1 p2 r2 v26 m60 o63) (H112_11 v27 r54) [] []) 2 (QI.o { val := pt 0 (0 + v26.toNat * 2) } (qs (S112_3 v27 p1 p2 r2 v26 m60 o63) (H112_11 v27 r54) [] []) (q_ixS 0 0 (v26.toNat * 2) (by kernel_rfl) hg65) (QI.o { val := ag [iv o66.1, iv o66.2] } (qs (S112_2 v27 p1 p2 r2 v26 m60 o63 o66) (H112_11 v27 r54) [] []) (q_nA Pg (H112_11 v27 r54) 101 0 (0 + v26.toNat * 2) v27 e101 2 101 v26.toNat (0, 0) h67) (QI.o { val := pt 0 (0 + v26.toNat * 2) } (qs (S112_1 v27 p1 p2 r2 v26 m60 o63 o66) (H112_11 v27 r54) [] []) (q_ixS 0 0 (v26.toNat * 2) (by kernel_rfl) hg65) ?_))))))
       exact QI.o { val := undef, upd := some (0, lb101 (List.set v27 v26.toNat (o63.1, o63.2))) } (qs (S112_1 v27 p1 p2 r2 v26 m60 o63 o66) (H112_9 v27 v26 o63 r54) [] [(17, 0)]) (q_stP Pg 0 (H112_11 v27 r54) 101 0 (0 + v26.toNat * 2) v27 e101 2 101 v26.toNat 0 2 (ag [iv o63.1, iv o63.2]) [iv o63.1, iv o63.2] (0, 0) (o63.1, o63.2) (by first | omega | (simp <;> omega))) (QI.done (by kernel_rfl))
    · refine SI.o { val := pt 0 (0 + (w64 (p1 + m60)).toNat * 2) } (S112_0 v27 p1 p2 r2 v26 m60 o63 o66) (H112_9 v27 v26 o63 r54) (q_ixS 0 0 ((w64 (p1 + m60)).toNat * 2) (by kernel_rfl) hg62) ?_
      exact SI.o { val := undef, upd := some (0, lb101 (List.set (List.set v27 v26.toNat (o63.1, o63.2)) (w64 (p1 + m60)).toNat (o66.1, o66.2))) } (S112_0 v27 p1 p2 r2 v26 m60 o63 o66) (H112_8 v27 v26 o63 p1 m60 o66 r54) (q_stP Pg 0 (H112_9 v27 v26 o63 r54) 101 0 (0 + (w64 (p1 + m60)).toNat * 2) (List.set v27 v26.toNat (o63.1, o63.2)) e101 2 101 (w64 (p1 + m60)).toNat 0 2 (ag [iv o66.1, iv o66.2]) [iv o66.1, iv o66.2] (0, 0) (o66.1, o66.2) (by first | omega | (simp <;> omega))) (SI.done (by kernel_rfl))
    refine NX.bk (NX.sq (TS.rg (TI.ra 3 [0, 1, 8, 9, 10, 11] (st 67 [(0, anyV 0 v27.length), (1, iv p1), (8, iv (w64 (p2 - p1))), (9, pt 1 0), (10, .int .u64 r2), (11, iv (w64 (v26 + 1)))]) (TI.dn ?_))))
    exact Rd.again (a2 := (st 67 [(0, anyV 0 (List.length (List.set (List.set v27 v26.toNat (o63.1, o63.2)) (w64 (p1 + m60)).toNat (o66.1, o66.2)))), (1, iv p1), (8, iv (w64 (p2 - p1))), (9, pt 1 0), (10, .int .u64 r2), (11, iv (w64 (v26 + 1)))])) (h2 := (H112_8 v27 v26 o63 p1 m60 o66 r54)) (Wk.an [1] (.cons (At.blk (by kernel_rfl) (RnB.list (fun _ => rfl))) (.lt (.fl .nil) (.nil _))) [anyV 0 v27.length, iv p1, iv (w64 (p2 - p1)), pt 1 0, .int .u64 r2, iv (w64 (v26 + 1))] (.cons rav (.fl (.fl (.pp (.fl (.fl .nil))))))) (ih (w64 (v26 + 1)) (List.set (List.set v27 v26.toNat (o63.1, o63.2)) (w64 (p1 + m60)).toNat (o66.1, o66.2)) r54.2 _ hF)
   clear hF
   have hF := hm61
   clear hm61
   refine TS.start ?_
   refine TS.cd (.tmp 45) (decide ((w64 (andu r54.1 (IntKind.wrap .u64 (r2 - 1)))) ≥ (w64 (p2 - p1)))) (fun hc68 => ?_) (fun hc68 => ?_)
   · replace hF := of_pos hF hc68
     obtain ⟨o69, h70, hF⟩ := of_do hF
     replace h70 := sj h70
     refine TS.rg (TI.ra 2 [0, 1, 8, 9, 10, 11, 46, 47] (st 67 [(0, anyV 0 v27.length), (1, iv p1), (8, iv (w64 (p2 - p1))), (9, pt 1 0), (10, .int .u64 r2), (11, iv v26), (46, iv (w64 (andu r54.1 (IntKind.wrap .u64 (r2 - 1))))), (47, iv (w64 (p2 - p1)))]) (TI.o { val := iv o69 } (q_convI (e := w64 ((w64 (andu r54.1 (IntKind.wrap .u64 (r2 - 1)))) - (w64 (p2 - p1)))) (y := o69) (by kernel_rfl) h70) [0, 1, 8, 9, 10, 11, 48] [0, 1] (st 67 [(0, anyV 0 v27.length), (1, iv p1), (8, iv (w64 (p2 - p1))), (9, pt 1 0), (10, .int .u64 r2), (11, iv v26), (48, iv o69)]) (H112_11 v27 r54) (TI.ra 1 [0, 1, 8, 9, 10, 11, 12] (st 67 [(0, anyV 0 v27.length), (1, iv p1), (8, iv (w64 (p2 - p1))), (9, pt 1 0), (10, .int .u64 r2), (11, iv v26), (12, iv o69)]) (TI.dn ?_))))
     have hF := sj hF
     subst hF
     exact TS.weak (by exact (Wk.an [1] (.cons (At.blk (by kernel_rfl) (RnB.list (fun _ => rfl))) (.lt (.fl .nil) (.nil _))) [anyV 0 v27.length, iv p1, iv (w64 (p2 - p1)), pt 1 0, .int .u64 r2, iv v26, iv o69] (.cons rav (.fl (.fl (.pp (.fl (.fl (.fl .nil))))))))) hK
   replace hF := of_neg hF hc68
   refine TS.sk ?_
   have hF := sj hF
   subst hF
   exact TS.weak (by exact (Wk.an [1] (.cons (At.blk (by kernel_rfl) (RnB.list (fun _ => rfl))) (.lt (.fl .nil) (.nil _))) [anyV 0 v27.length, iv p1, iv (w64 (p2 - p1)), pt 1 0, .int .u64 r2, iv v26, iv (w64 (andu r54.1 (IntKind.wrap .u64 (r2 - 1))))] (.cons rav (.fl (.fl (.pp (.fl (.fl (.fl .nil))))))))) hK
 replace hF := of_neg hF hc53
 refine TS.ex 0 (NX.sqX ?_)
 have hF := sj hF
 subst hF
 exact Rd.out (e := .exit 0) (by intro h; cases h) (And.intro rfl (Wk.an [] Ats.l [anyV 0 v27.length] (.cons rav .nil)))
theorem B112 (p0 : List I2) (p1 p2 : Int) (r : List I2) (hF : F112 p0 p1 p2 = some r) : TS Pg 0 1 c112 (st 67 [(0, anyV 0 p0.length), (1, iv p1), (2, iv p2)]) [lb101 p0] (NX Pg 0 1 [] (ImpFinV Pg Try.f112 (.tuple #[]) [lb101 r])) := by
 unfold F112 at hF
 refine TS.sq (TS.rg (TI.ra 4 [0, 1, 8] (st 67 [(0, anyV 0 p0.length), (1, iv p1), (8, iv (w64 (p2 - p1)))]) (TI.dq (TS.sq (TS.rg (TI.ra 2 [0, 1, 8, 17] (st 67 [(0, anyV 0 p0.length), (1, iv p1), (8, iv (w64 (p2 - p1))), (17, .bool (decide ((w64 (p2 - p1)) ≥ 8)))]) (TI.dn ?_)))))))
 refine NX.sq ?_
 refine TS.cd (.tmp 17) (decide ((w64 (p2 - p1)) ≥ 8)) (fun hc1 => ?_) (fun hc1 => ?_)
 · replace hF := of_pos hF hc1
   refine TS.sq (TS.rg (TI.rn 4 [0, 1, 8, 9] [0, 1] (st 67 [(0, anyV 0 p0.length), (1, iv p1), (8, iv (w64 (p2 - p1))), (9, pt 1 0)]) (H112_10 p0 p2 p1) (TI.dq (TS.sq ?_))))
   obtain ⟨r2, h3, hF⟩ := of_do hF
   refine TS.rg (TI.ra 1 [0, 1, 8, 9, 20] (st 67 [(0, anyV 0 p0.length), (1, iv p1), (8, iv (w64 (p2 - p1))), (9, pt 1 0), (20, iv (w64 (p2 - p1)))]) (TI.cf (C119 _ _ h3) (TI.ra 1 [0, 1, 8, 9, 10] (st 67 [(0, anyV 0 p0.length), (1, iv p1), (8, iv (w64 (p2 - p1))), (9, pt 1 0), (10, .int .u64 r2)]) (TI.dq (TS.sq ?_)))))
   obtain ⟨o4, h5, hF⟩ := of_do hF
   replace h5 := sj h5
   refine TS.rg (TI.ra 5 [0, 1, 8, 9, 10, 26] (st 67 [(0, anyV 0 p0.length), (1, iv p1), (8, iv (w64 (p2 - p1))), (9, pt 1 0), (10, .int .u64 r2), (26, iv (w64 (p1 + (w64 ((w64 (Int.tdiv (w64 (p2 - p1)) 4)) * 2)))))]) (TI.o { val := iv o4 } (q_convI (e := w64 ((w64 (p1 + (w64 ((w64 (Int.tdiv (w64 (p2 - p1)) 4)) * 2)))) - 1)) (y := o4) (by kernel_rfl) h5) [0, 1, 8, 9, 10, 27] [0, 1] (st 67 [(0, anyV 0 p0.length), (1, iv p1), (8, iv (w64 (p2 - p1))), (9, pt 1 0), (10, .int .u64 r2), (27, iv o4)]) (H112_10 p0 p2 p1) (TI.ra 1 [0, 1, 8, 9, 10, 11] (st 67 [(0, anyV 0 p0.length), (1, iv p1), (8, iv (w64 (p2 - p1))), (9, pt 1 0), (10, .int .u64 r2), (11, iv o4)]) (TI.dq (TS.bk 0 ?_)))))
   obtain ⟨r71, h72, hF⟩ := of_do hF
   refine TS.lp (TL.weak (a2 := (st 67 [(0, anyV 0 p0.length), (1, iv p1), (8, iv (w64 (p2 - p1))), (9, pt 1 0), (10, .int .u64 r2), (11, iv o4)])) (h2 := (H112_10 p0 p2 p1)) (Wk.an [1] (.cons (At.blk (by kernel_rfl) (RnB.list (fun _ => rfl))) (.lt (.fl .nil) (.nil _))) [anyV 0 p0.length, iv p1, iv (w64 (p2 - p1)), pt 1 0, .int .u64 r2, iv o4] (.cons rav (.fl (.fl (.pp (.fl (.fl .nil))))))) (TL.post (L112l0 p1 p2 r2 o4 p0 (IntKind.wrap .u64 (w64 (p2 - p1))) r71 h72) ?_))
   rintro e a1 h1 hp
   obtain ⟨rfl, hw⟩ := hp
   refine ⟨(st 67 [(0, anyV 0 r71.length)]), [lb101 r71], (NX.bkX ?_), hw⟩
   have hF := sj hF
   subst hF
   exact ⟨.inl rfl, rfl, by kernel_rfl, [], by kernel_rfl⟩
 replace hF := of_neg hF hc1
 refine TS.sk ?_
 have hF := sj hF
 subst hF
 exact ⟨.inl rfl, rfl, by kernel_rfl, [], by kernel_rfl⟩
theorem C112 (p0 : List I2) (k : Nat) (hk : List.length p0 = k) (p1 p2 : Int) (r : List I2) (hF : F112 p0 p1 p2 = some r) : ImpSim Pg 112 [anyV 0 k, iv p1, iv p2, fn 87] 0 [lb101 p0] (.tuple #[]) [lb101 r] := by
 subst hk
 exact ImpSim.of_FinV (fn := Try.f112) (c := c112) (by kernel_rfl) (by kernel_rfl) (by kernel_rfl) (by kernel_rfl) 0 1 rfl rfl (by decide) (selfOk_cons (selfOk_flat (.inr (e101_flat _))) selfOk_nil) [0, 1, 2] (by kernel_rfl) (B112 p0 p1 p2 r hF)
end Go.Proofs.Ythpfffijnkmdgaa
