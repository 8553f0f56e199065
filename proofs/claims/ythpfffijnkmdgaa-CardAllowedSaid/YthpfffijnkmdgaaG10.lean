/- What functions of the program compute, and that they do. -/
import Derived.Test.YthpfffijnkmdgaaCS
import Derived.Test.YthpfffijnkmdgaaGiven
set_option linter.unusedVariables false
set_option linter.unusedSimpArgs false
set_option maxRecDepth 100000
set_option maxHeartbeats 4000000
namespace Go.Proofs.Ythpfffijnkmdgaa
open Go Go.Cl
noncomputable section
noncomputable def c10 : Code := Try.f10.code
def S10_0 (p2 : Int) (r5 : (List I2) × Int) (o28 : I2) (r3 : I2 × Int) (r30 : I2) : CAct := (st 87 [(6, iv (Int.tmod (w64 p2) 3600)), (7, pt 3 0), (9, accV 4 r5.1.length), (58, .bool false), (59, accV 4 r5.1.length), (60, .pointer (some ⟨4, 0 + (Int.toNat 0) * 2, none⟩)), (61, .pointer (some ⟨4, 0 + (Int.toNat 0) * 2, none⟩)), (62, iv o28.1), (63, pt 3 1), (64, iv r3.1.2), (65, iv (w64 (o28.1 * r3.1.2))), (66, pt 3 0), (67, iv r3.1.1), (68, accV 4 r5.1.length), (69, .pointer (some ⟨4, 0 + (Int.toNat 0) * 2, none⟩)), (70, .pointer (some ⟨4, 0 + (Int.toNat 0) * 2 + 1, none⟩)), (71, iv o28.2), (72, iv (w64 (r3.1.1 * o28.2))), (73, iv (w64 ((w64 (o28.1 * r3.1.2)) + (w64 (r3.1.1 * o28.2))))), (74, accV 4 r5.1.length), (75, .pointer (some ⟨4, 0 + (Int.toNat 0) * 2, none⟩)), (76, .pointer (some ⟨4, 0 + (Int.toNat 0) * 2 + 1, none⟩)), (77, iv o28.2), (78, pt 3 1), (79, iv r3.1.2), (80, iv (w64 (o28.2 * r3.1.2))), (81, ag [iv r30.1, iv r30.2]), (82, iv (Int.tmod (w64 p2) 3600))])
def S10_1 (p2 : Int) (r5 : (List I2) × Int) (o28 : I2) (r3 : I2 × Int) : CAct := (st 87 [(6, iv (Int.tmod (w64 p2) 3600)), (7, pt 3 0), (9, accV 4 r5.1.length), (58, .bool false), (59, accV 4 r5.1.length), (60, .pointer (some ⟨4, 0 + (Int.toNat 0) * 2, none⟩)), (61, .pointer (some ⟨4, 0 + (Int.toNat 0) * 2, none⟩)), (62, iv o28.1), (63, pt 3 1), (64, iv r3.1.2), (65, iv (w64 (o28.1 * r3.1.2))), (66, pt 3 0), (67, iv r3.1.1), (68, accV 4 r5.1.length), (69, .pointer (some ⟨4, 0 + (Int.toNat 0) * 2, none⟩)), (70, .pointer (some ⟨4, 0 + (Int.toNat 0) * 2 + 1, none⟩)), (71, iv o28.2), (72, iv (w64 (r3.1.1 * o28.2))), (73, iv (w64 ((w64 (o28.1 * r3.1.2)) + (w64 (r3.1.1 * o28.2))))), (74, accV 4 r5.1.length), (75, .pointer (some ⟨4, 0 + (Int.toNat 0) * 2, none⟩)), (76, .pointer (some ⟨4, 0 + (Int.toNat 0) * 2 + 1, none⟩)), (77, iv o28.2), (78, pt 3 1), (79, iv r3.1.2), (80, iv (w64 (o28.2 * r3.1.2)))])
def S10_2 (p2 : Int) (r5 : (List I2) × Int) (o28 : I2) (r3 : I2 × Int) : CAct := (st 87 [(6, iv (Int.tmod (w64 p2) 3600)), (7, pt 3 0), (9, accV 4 r5.1.length), (58, .bool false), (59, accV 4 r5.1.length), (60, .pointer (some ⟨4, 0 + (Int.toNat 0) * 2, none⟩)), (61, .pointer (some ⟨4, 0 + (Int.toNat 0) * 2, none⟩)), (62, iv o28.1), (63, pt 3 1), (64, iv r3.1.2), (65, iv (w64 (o28.1 * r3.1.2))), (66, pt 3 0), (67, iv r3.1.1), (68, accV 4 r5.1.length), (69, .pointer (some ⟨4, 0 + (Int.toNat 0) * 2, none⟩)), (70, .pointer (some ⟨4, 0 + (Int.toNat 0) * 2 + 1, none⟩)), (71, iv o28.2), (72, iv (w64 (r3.1.1 * o28.2))), (73, iv (w64 ((w64 (o28.1 * r3.1.2)) + (w64 (r3.1.1 * o28.2))))), (74, accV 4 r5.1.length), (75, .pointer (some ⟨4, 0 + (Int.toNat 0) * 2, none⟩)), (76, .pointer (some ⟨4, 0 + (Int.toNat 0) * 2 + 1, none⟩))])
def S10_3 (p2 : Int) (r5 : (List I2) × Int) (o28 : I2) (r3 : I2 × Int) : CAct := (st 87 [(6, iv (Int.tmod (w64 p2) 3600)), (7, pt 3 0), (9, accV 4 r5.1.length), (58, .bool false), (59, accV 4 r5.1.length), (60, .pointer (some ⟨4, 0 + (Int.toNat 0) * 2, none⟩)), (61, .pointer (some ⟨4, 0 + (Int.toNat 0) * 2, none⟩)), (62, iv o28.1), (63, pt 3 1), (64, iv r3.1.2), (65, iv (w64 (o28.1 * r3.1.2))), (66, pt 3 0), (67, iv r3.1.1), (68, accV 4 r5.1.length), (69, .pointer (some ⟨4, 0 + (Int.toNat 0) * 2, none⟩)), (70, .pointer (some ⟨4, 0 + (Int.toNat 0) * 2 + 1, none⟩)), (71, iv o28.2), (72, iv (w64 (r3.1.1 * o28.2))), (73, iv (w64 ((w64 (o28.1 * r3.1.2)) + (w64 (r3.1.1 * o28.2))))), (74, accV 4 r5.1.length)])
def S10_4 (p2 : Int) (r5 : (List I2) × Int) (o28 : I2) (r3 : I2 × Int) : CAct := (st 87 [(6, iv (Int.tmod (w64 p2) 3600)), (7, pt 3 0), (9, accV 4 r5.1.length), (58, .bool false), (59, accV 4 r5.1.length), (60, .pointer (some ⟨4, 0 + (Int.toNat 0) * 2, none⟩)), (61, .pointer (some ⟨4, 0 + (Int.toNat 0) * 2, none⟩)), (62, iv o28.1), (63, pt 3 1), (64, iv r3.1.2), (65, iv (w64 (o28.1 * r3.1.2))), (66, pt 3 0), (67, iv r3.1.1), (68, accV 4 r5.1.length), (69, .pointer (some ⟨4, 0 + (Int.toNat 0) * 2, none⟩)), (70, .pointer (some ⟨4, 0 + (Int.toNat 0) * 2 + 1, none⟩))])
def S10_5 (p2 : Int) (r5 : (List I2) × Int) (o28 : I2) (r3 : I2 × Int) : CAct := (st 87 [(6, iv (Int.tmod (w64 p2) 3600)), (7, pt 3 0), (9, accV 4 r5.1.length), (58, .bool false), (59, accV 4 r5.1.length), (60, .pointer (some ⟨4, 0 + (Int.toNat 0) * 2, none⟩)), (61, .pointer (some ⟨4, 0 + (Int.toNat 0) * 2, none⟩)), (62, iv o28.1), (63, pt 3 1), (64, iv r3.1.2), (65, iv (w64 (o28.1 * r3.1.2))), (66, pt 3 0), (67, iv r3.1.1), (68, accV 4 r5.1.length)])
def S10_6 (p2 : Int) (r5 : (List I2) × Int) : CAct := (st 87 [(6, iv (Int.tmod (w64 p2) 3600)), (7, pt 3 0), (9, accV 4 r5.1.length), (58, .bool false), (59, accV 4 r5.1.length), (60, .pointer (some ⟨4, 0 + (Int.toNat 0) * 2, none⟩)), (61, .pointer (some ⟨4, 0 + (Int.toNat 0) * 2, none⟩))])
def H10_7 (p0 : List I2) (r3 : I2 × Int) (r5 : (List I2) × Int) : List Blk := [ab 81 e81 p0, .dead, .dead, cl 29 [iv r3.1.1, iv r3.1.2], ab 29 e29 r5.1]
def S10_8 (p2 : Int) (r5 : (List I2) × Int) : CAct := (st 87 [(6, iv (Int.tmod (w64 p2) 3600)), (7, pt 3 0), (9, accV 4 r5.1.length), (42, .bool false), (44, iv (r5.1.length : Int))])
def S10_9 (p2 : Int) (r5 : (List I2) × Int) : CAct := (st 87 [(6, iv (Int.tmod (w64 p2) 3600)), (7, pt 3 0), (9, accV 4 r5.1.length), (58, .bool false), (59, accV 4 r5.1.length)])
def S10_10 (p2 : Int) (r5 : (List I2) × Int) : CAct := (st 87 [(6, iv (Int.tmod (w64 p2) 3600)), (7, pt 3 0), (9, accV 4 r5.1.length), (38, .bool false), (40, .bool false)])
def S10_11 (p2 : Int) (r5 : (List I2) × Int) : CAct := (st 87 [(6, iv (Int.tmod (w64 p2) 3600)), (7, pt 3 0), (9, accV 4 r5.1.length), (10, iv r5.2), (37, .bool false)])
def S10_12 (p2 : Int) (r5 : (List I2) × Int) : CAct := (st 87 [(6, iv (Int.tmod (w64 p2) 3600)), (7, pt 3 0), (9, accV 4 r5.1.length), (38, .bool false), (39, iv r5.2)])
def S10_13 (p2 : Int) (r5 : (List I2) × Int) (r3 : I2 × Int) : CAct := (st 87 [(6, iv (Int.tmod (w64 p2) 3600)), (7, pt 3 0), (9, accV 4 r5.1.length), (10, iv r5.2), (36, iv r3.2)])
def S10_14 (p2 : Int) (r5 : (List I2) × Int) : CAct := (st 87 [(6, iv (Int.tmod (w64 p2) 3600)), (7, pt 3 0), (9, accV 4 r5.1.length), (58, .bool true)])
def H10_15 (p0 : List I2) : List Blk := [ab 81 e81 p0, .dead, .dead, .dead, .dead]
def F10 (p0 : List I2) (p1 p2 : Int) : Option Bool :=
 F38 p0 p1 >>= fun r1 =>
 F26 r1 (Int.tmod (w64 p2) 3600) >>= fun r3 =>
 F24 r1 (Int.tmod (w64 p2) 3600) >>= fun r5 =>
 F43 r1 >>= fun r7 =>
 if !r7 then
  (
   if r3.2 == 21 then
    F15 >>= fun r11 =>
    some (r11)
   else
    some (false)
  : Option Bool) >>= fun m13 =>
  some m13
 else
  (
   if r3.2 != 0 then
    some (true)
   else
    if r5.2 != 0 then
     some (true)
    else
     if (r5.1.length : Int) != 1 then
      some (true)
     else
      F46 r3.1.1 r3.1.2 >>= fun r18 =>
      if !r18 then
       some (true)
      else
       if (0 : Int) ≤ 0 ∧ 0 < (r5.1.length : Int) then
        some (List.getD r5.1 (Int.toNat 0) (0, 0)) >>= fun o22 =>
        F40 o22.1 o22.2 3600 >>= fun r24 =>
        some (!r24)
       else none
  : Option Bool) >>= fun m26 =>
  if m26 then
   some false
  else
   if (0 : Int) ≤ 0 ∧ 0 < (r5.1.length : Int) then
    some (List.getD r5.1 (Int.toNat 0) (0, 0)) >>= fun o28 =>
    F44 (w64 ((w64 (o28.1 * r3.1.2)) + (w64 (r3.1.1 * o28.2)))) (w64 (o28.2 * r3.1.2)) >>= fun r30 =>
    F42 r30.1 r30.2 (Int.tmod (w64 p2) 3600) >>= fun r32 =>
    (
     if r32 then
      F15 >>= fun r34 =>
      some (r34)
     else
      some (false)
    : Option Bool) >>= fun m36 =>
    some m36
   else none
def V10 (b : Nat) (r : Bool) : Value := .bool r
def N10 (b : Nat) (r : Bool) : List Blk := []
theorem B10 (p0 : List I2) (p1 p2 : Int) (r : Bool) (hF : F10 p0 p1 p2 = some r) : TS Try.prog 1 1 c10 (st 87 [(0, ag [sv 0 p0.length ANY, .int .u8 p1]), (1, .int .u16 p2)]) [ab 81 e81 p0] (NX Try.prog 1 1 [] (FinP Try.prog Try.f10 1 (V10 1 r) (N10 1 r))) := by
 unfold F10 at hF
 refine TS.sq (TS.rg (TI.rn 2 [1, 2] [0, 1] (st 87 [(1, .int .u16 p2), (2, pt 1 0)]) [ab 81 e81 p0, cl 72 [sv 0 p0.length ANY, .int .u8 p1]] (TI.dn (NX.sq (TS.sq ?_)))))
 obtain ⟨r1, h2, hF⟩ := of_do hF
 refine TS.rg (TI.rn 1 [1, 11] [0] (st 87 [(1, .int .u16 p2), (11, ag [sv 0 p0.length ANY, .int .u8 p1])]) [ab 81 e81 p0, .dead] (TI.cp 38 [ag [sv 0 p0.length ANY, .int .u8 p1]] (accV 2 r1.length) [ab 55 e55 r1] (PureSim.ren (hc := [ab 81 e81 p0]) (fun i => List.getD [(0, 0)] i (0, 0)) (C38 _ _ _ h2) (.ac (.nil _)) (.cons (Rn.agg' (.cons (Rn.any _ _ _ _ _ _ (nl rfl) rfl rfl (by decide)) (.fl .nil))) .nil) (Rn.acc (i' := 2) (nl rfl) rfl) (newflat_cons (accB_flat (fun _ => rfl)) newflat_nil)) (TI.rn 1 [1, 5] [0, 2] (st 87 [(1, .int .u16 p2), (5, accV 2 r1.length)]) [ab 81 e81 p0, .dead, ab 55 e55 r1] (TI.dn (NX.sq (TS.sq (TS.rg (TI.ra 4 [5, 6] (st 87 [(5, accV 2 r1.length), (6, iv (Int.tmod (w64 p2) 3600))]) ?_))))))))
 refine TI.dn (NX.sq (TS.sq ?_))
 obtain ⟨r3, h4, hF⟩ := of_do hF
 refine TS.rg (TI.ra 2 [5, 6, 17, 18] (st 87 [(5, accV 2 r1.length), (6, iv (Int.tmod (w64 p2) 3600)), (17, accV 2 r1.length), (18, iv (Int.tmod (w64 p2) 3600))]) (TI.cp 26 [accV 2 r1.length, iv (Int.tmod (w64 p2) 3600)] (.tuple ⟨[ag [iv r3.1.1, iv r3.1.2], iv r3.2]⟩) [] (PureSim.ren (hc := [ab 55 e55 r1]) (fun i => List.getD [(2, 0)] i (0, 0)) (C26 _ _ _ h4) (.ac (.nil _)) (.cons (Rn.accA (i' := 2) (nl rfl) rfl) (.fl .nil)) (.flat (by kernel_rfl)) newflat_nil) (TI.rn 6 [5, 6, 7, 8] [0, 2, 3] (st 87 [(5, accV 2 r1.length), (6, iv (Int.tmod (w64 p2) 3600)), (7, pt 3 0), (8, iv r3.2)]) [ab 81 e81 p0, .dead, ab 55 e55 r1, cl 29 [iv r3.1.1, iv r3.1.2]] (TI.dn (NX.sq (TS.sq ?_))))))
 obtain ⟨r5, h6, hF⟩ := of_do hF
 refine TS.rg (TI.ra 2 [5, 6, 7, 8, 23, 24] (st 87 [(5, accV 2 r1.length), (6, iv (Int.tmod (w64 p2) 3600)), (7, pt 3 0), (8, iv r3.2), (23, accV 2 r1.length), (24, iv (Int.tmod (w64 p2) 3600))]) (TI.cp 24 [accV 2 r1.length, iv (Int.tmod (w64 p2) 3600)] (.tuple ⟨[accV 4 r5.1.length, iv r5.2]⟩) [ab 29 e29 r5.1] (PureSim.ren (hc := [ab 55 e55 r1]) (fun i => List.getD [(2, 0)] i (0, 0)) (C24 _ _ _ h6) (.ac (.nil _)) (.cons (Rn.accA (i' := 2) (nl rfl) rfl) (.fl .nil)) (Rn.tuple' (.cons (Rn.acc (i' := 4) (nl rfl) rfl) (.fl .nil))) (newflat_cons (accB_flat (fun _ => rfl)) newflat_nil)) (TI.rn 5 [5, 6, 7, 8, 9, 10] [0, 2, 3, 4] (st 87 [(5, accV 2 r1.length), (6, iv (Int.tmod (w64 p2) 3600)), (7, pt 3 0), (8, iv r3.2), (9, accV 4 r5.1.length), (10, iv r5.2)]) [ab 81 e81 p0, .dead, ab 55 e55 r1, cl 29 [iv r3.1.1, iv r3.1.2], ab 29 e29 r5.1] (TI.dn (NX.sq (TS.sq (TS.sq ?_)))))))
 obtain ⟨r7, h8, hF⟩ := of_do hF
 refine TS.rg (TI.ra 1 [6, 7, 8, 9, 10, 28] (st 87 [(6, iv (Int.tmod (w64 p2) 3600)), (7, pt 3 0), (8, iv r3.2), (9, accV 4 r5.1.length), (10, iv r5.2), (28, accV 2 r1.length)]) (TI.cp 43 [accV 2 r1.length] (.bool r7) [] (PureSim.ren (hc := [ab 55 e55 r1]) (fun i => List.getD [(2, 0)] i (0, 0)) (C43 _ _ h8) (.ac (.nil _)) (.cons (Rn.accA (i' := 2) (nl rfl) rfl) .nil) (.flat (by kernel_rfl)) newflat_nil) (TI.rn 1 [6, 7, 8, 9, 10, 30] [0, 3, 4] (st 87 [(6, iv (Int.tmod (w64 p2) 3600)), (7, pt 3 0), (8, iv r3.2), (9, accV 4 r5.1.length), (10, iv r5.2), (30, .bool (!r7))]) (H10_7 p0 r3 r5) (TI.dn (NX.sq ?_)))))
 refine TS.cd (.tmp 30) (!r7) (fun hc9 => ?_) (fun hc9 => ?_)
 · replace hF := of_pos hF hc9
   refine TS.sq ?_
   obtain ⟨m13, hm14, hF⟩ := of_do hF
   have hK : NX Try.prog 1 1 [.sq c10.s2.s2.s2.s2.s2.s1.s2.th.s2, .sq c10.s2.s2.s2.s2.s2.s2] (FinP Try.prog Try.f10 1 (V10 1 r) (N10 1 r)) .normal (st 87 [(4, .bool m13)]) (H10_15 p0) := by
    refine NX.sq (TS.rt (NX.sqR ?_))
    have hF := sj hF
    subst hF
    exact ⟨.inr rfl, rfl, .bool m13, by kernel_rfl, WkV.flat0 (by kernel_rfl) (nl rfl)⟩
   rcases Bool.eq_false_or_eq_true (r3.2 == 21) with hc10 | hc10
   · replace hm14 := of_pos hm14 hc10
     have hX := of_do hm14
     clear hm14
     obtain ⟨r11, h12, hm14⟩ := hX
     have hm14 := sj hm14
     subst hm14
     exact TS.rg (TI.rn 1 [31] [0] (st 87 [(31, iv r3.2)]) (H10_15 p0) (TI.o { val := .bool true } (q_conv (e := r3.2 == 21) (b := true) (by kernel_rfl) hc10) [32] [0] (st 87 [(32, .bool true)]) (H10_15 p0) (TI.ra 1 [33] (st 87 [(33, .bool true)]) (TI.cf (C15 _ h12) (TI.ra 2 [4] (st 87 [(4, .bool r11)]) (TI.dn hK))))))
   replace hm14 := of_neg hm14 hc10
   have hm14 := sj hm14
   subst hm14
   exact TS.rg (TI.rn 1 [31] [0] (st 87 [(31, iv r3.2)]) (H10_15 p0) (TI.o { val := .bool false } (q_conv (e := r3.2 == 21) (b := false) (by kernel_rfl) hc10) [32] [0] (st 87 [(32, .bool false)]) (H10_15 p0) (TI.ra 4 [4] (st 87 [(4, .bool false)]) (TI.dn hK))))
 replace hF := of_neg hF hc9
 refine TS.sk (NX.sq (TS.sq (TS.sq ?_)))
 obtain ⟨m26, hm38, hF⟩ := of_do hF
 have hK : NX Try.prog 1 1 [.sq c10.s2.s2.s2.s2.s2.s2.s1.s2, .sq c10.s2.s2.s2.s2.s2.s2.s2] (FinP Try.prog Try.f10 1 (V10 1 r) (N10 1 r)) .normal (st 87 [(6, iv (Int.tmod (w64 p2) 3600)), (7, pt 3 0), (9, accV 4 r5.1.length), (58, .bool m26)]) (H10_7 p0 r3 r5) := by
  refine NX.sq ?_
  cases m26 with
  | true =>
   replace hF := of_pos hF rfl
   refine TS.cdT (.tmp 58) (TS.sq (TS.rg (TI.rn 1 [4] [0] (st 87 [(4, .bool false)]) (H10_15 p0) (TI.dn (NX.sq (TS.rt (NX.sqR ?_)))))))
   have hF := sj hF
   subst hF
   exact ⟨.inr rfl, rfl, .bool false, by kernel_rfl, WkV.flat0 (by kernel_rfl) (nl rfl)⟩
  | false =>
   replace hF := of_neg hF rfl
   refine TS.cdF (.tmp 58) (TS.sk (NX.sq (TS.sq ?_)))
   obtain ⟨hg27, hF⟩ := of_guard hF
   obtain ⟨o28, h29, hF⟩ := of_do hF
   replace h29 := sj h29
   obtain ⟨r30, h31, hF⟩ := of_do hF
   obtain ⟨r32, h33, hF⟩ := of_do hF
   obtain ⟨m36, hm37, hF⟩ := of_do hF
   have hK : NX Try.prog 1 1 [.sq c10.s2.s2.s2.s2.s2.s2.s2.s2] (FinP Try.prog Try.f10 1 (V10 1 r) (N10 1 r)) .normal (st 87 [(4, .bool m36)]) (H10_15 p0) := by
    refine NX.sq (TS.rt ?_)
    have hF := sj hF
    subst hF
    exact ⟨.inr rfl, rfl, .bool m36, by kernel_rfl, WkV.flat0 (by kernel_rfl) (nl rfl)⟩
   cases r32 with
   | true =>
    replace hm37 := of_pos hm37 rfl
    have hX := of_do hm37
    clear hm37
    obtain ⟨r34, h35, hm37⟩ := hX
    have hm37 := sj hm37
    subst hm37
    have hT : ∀ e ∈ ([⟨44, [iv (w64 ((w64 (o28.1 * r3.1.2)) + (w64 (r3.1.1 * o28.2)))), iv (w64 (o28.2 * r3.1.2))], (H10_7 p0 r3 r5), ag [iv r30.1, iv r30.2], []⟩, ⟨42, [ag [iv r30.1, iv r30.2], iv (Int.tmod (w64 p2) 3600)], (H10_7 p0 r3 r5), .bool true, []⟩, ⟨15, [], (H10_7 p0 r3 r5), .bool r34, []⟩] : List Entry), PureSim Try.prog e.g e.args e.h e.v e.new := by
     intro e he
     simp only [List.mem_cons, List.not_mem_nil, or_false] at he
     rcases he with rfl | rfl | rfl
     · exact PureSim.ak (C44 _ _ _ h31)
     · exact PureSim.ak (C42 _ _ _ _ h33)
     exact PureSim.ak (C15 _ h35)
    refine TS.dp [⟨44, [iv (w64 ((w64 (o28.1 * r3.1.2)) + (w64 (r3.1.1 * o28.2)))), iv (w64 (o28.2 * r3.1.2))], (H10_7 p0 r3 r5), ag [iv r30.1, iv r30.2], []⟩, ⟨42, [ag [iv r30.1, iv r30.2], iv (Int.tmod (w64 p2) 3600)], (H10_7 p0 r3 r5), .bool true, []⟩, ⟨15, [], (H10_7 p0 r3 r5), .bool r34, []⟩] hT mixed 24 [4] [0] (st 87 [(4, .bool r34)]) (H10_15 p0) ?_ ?_
    · refine QJ.rn (qs (S10_9 p2 r5) (H10_7 p0 r3 r5) [] []) 1 (QJ.o { val := .pointer (some ⟨4, 0 + (Int.toNat 0) * 2, none⟩) } (q_ixAcc (P := Try.prog) (t := 42) (s := 2) (e := 29) 4 r5.1.length (by kernel_rfl) hg27 (by kernel_rfl) (by kernel_rfl)) (QJ.rn (qs (S10_6 p2 r5) (H10_7 p0 r3 r5) [] []) 1 (QJ.o { val := iv o28.1 } (q_n1a Try.prog (H10_7 p0 r3 r5) 3 4 (0 + (Int.toNat 0) * 2) r5.1 e29 2 29 (Int.toNat 0) 0 (0, 0) h29) (QJ.rn (qs (S10_5 p2 r5 o28 r3) (H10_7 p0 r3 r5) [] []) 6 (QJ.o { val := .pointer (some ⟨4, 0 + (Int.toNat 0) * 2, none⟩) } (q_ixAcc (P := Try.prog) (t := 42) (s := 2) (e := 29) 4 r5.1.length (by kernel_rfl) hg27 (by kernel_rfl) (by kernel_rfl)) (QJ.rn (qs (S10_4 p2 r5 o28 r3) (H10_7 p0 r3 r5) [] []) 1 (QJ.o { val := iv o28.2 } (q_n1a Try.prog (H10_7 p0 r3 r5) 3 4 (0 + (Int.toNat 0) * 2 + 1) r5.1 e29 2 29 (Int.toNat 0) 1 (0, 0) h29) (QJ.rn (qs (S10_3 p2 r5 o28 r3) (H10_7 p0 r3 r5) [] []) 3 ?_))))))))
      refine QJ.o { val := .pointer (some ⟨4, 0 + (Int.toNat 0) * 2, none⟩) } (q_ixAcc (P := Try.prog) (t := 42) (s := 2) (e := 29) 4 r5.1.length (by kernel_rfl) hg27 (by kernel_rfl) (by kernel_rfl)) (QJ.rn (qs (S10_2 p2 r5 o28 r3) (H10_7 p0 r3 r5) [] []) 1 (QJ.o { val := iv o28.2 } (q_n1a Try.prog (H10_7 p0 r3 r5) 3 4 (0 + (Int.toNat 0) * 2 + 1) r5.1 e29 2 29 (Int.toNat 0) 1 (0, 0) h29) (QJ.rn (qs (S10_1 p2 r5 o28 r3) (H10_7 p0 r3 r5) [] []) 3 (QJ.o { val := ag [iv r30.1, iv r30.2], new := [] } (qOf_call (g := 44) (args := [iv (w64 ((w64 (o28.1 * r3.1.2)) + (w64 (r3.1.1 * o28.2)))), iv (w64 (o28.2 * r3.1.2))]) (by kernel_rfl) lookC_hit) (QJ.rn (qs (S10_0 p2 r5 o28 r3 r30) (H10_7 p0 r3 r5) [] []) 1 (QJ.dn ⟨rfl, (SJ.o { val := .bool true, new := [] } (qOf_call (g := 42) (args := [ag [iv r30.1, iv r30.2], iv (Int.tmod (w64 p2) 3600)]) (by kernel_rfl) (lookC_skip (fun hg => absurd (show (44 : Nat) = 42 from hg) (by decide)) lookC_hit)) (SJ.rn (st 87 [(6, iv (Int.tmod (w64 p2) 3600)), (7, pt 3 0), (9, accV 4 r5.1.length), (58, .bool false), (59, accV 4 r5.1.length), (60, .pointer (some ⟨4, 0 + (Int.toNat 0) * 2, none⟩)), (61, .pointer (some ⟨4, 0 + (Int.toNat 0) * 2, none⟩)), (62, iv o28.1), (63, pt 3 1), (64, iv r3.1.2), (65, iv (w64 (o28.1 * r3.1.2))), (66, pt 3 0), (67, iv r3.1.1), (68, accV 4 r5.1.length), (69, .pointer (some ⟨4, 0 + (Int.toNat 0) * 2, none⟩)), (70, .pointer (some ⟨4, 0 + (Int.toNat 0) * 2 + 1, none⟩)), (71, iv o28.2), (72, iv (w64 (r3.1.1 * o28.2))), (73, iv (w64 ((w64 (o28.1 * r3.1.2)) + (w64 (r3.1.1 * o28.2))))), (74, accV 4 r5.1.length), (75, .pointer (some ⟨4, 0 + (Int.toNat 0) * 2, none⟩)), (76, .pointer (some ⟨4, 0 + (Int.toNat 0) * 2 + 1, none⟩)), (77, iv o28.2), (78, pt 3 1), (79, iv r3.1.2), (80, iv (w64 (o28.2 * r3.1.2))), (81, ag [iv r30.1, iv r30.2]), (82, iv (Int.tmod (w64 p2) 3600)), (83, .bool true), (84, .bool true)]) (H10_7 p0 r3 r5) 1 ?_))⟩))))))
      exact SJ.o { val := .bool r34, new := [] } (qOf_call (g := 15) (args := []) (by kernel_rfl) (lookC_skip (fun hg => absurd (show (44 : Nat) = 15 from hg) (by decide)) (lookC_skip (fun hg => absurd (show (42 : Nat) = 15 from hg) (by decide)) lookC_hit))) SJ.la
    exact hK
   | false =>
    replace hm37 := of_neg hm37 rfl
    have hm37 := sj hm37
    subst hm37
    have hT : ∀ e ∈ ([⟨44, [iv (w64 ((w64 (o28.1 * r3.1.2)) + (w64 (r3.1.1 * o28.2)))), iv (w64 (o28.2 * r3.1.2))], (H10_7 p0 r3 r5), ag [iv r30.1, iv r30.2], []⟩, ⟨42, [ag [iv r30.1, iv r30.2], iv (Int.tmod (w64 p2) 3600)], (H10_7 p0 r3 r5), .bool false, []⟩] : List Entry), PureSim Try.prog e.g e.args e.h e.v e.new := by
     intro e he
     simp only [List.mem_cons, List.not_mem_nil, or_false] at he
     rcases he with rfl | rfl
     · exact PureSim.ak (C44 _ _ _ h31)
     exact PureSim.ak (C42 _ _ _ _ h33)
    refine TS.dp [⟨44, [iv (w64 ((w64 (o28.1 * r3.1.2)) + (w64 (r3.1.1 * o28.2)))), iv (w64 (o28.2 * r3.1.2))], (H10_7 p0 r3 r5), ag [iv r30.1, iv r30.2], []⟩, ⟨42, [ag [iv r30.1, iv r30.2], iv (Int.tmod (w64 p2) 3600)], (H10_7 p0 r3 r5), .bool false, []⟩] hT mixed 24 [4] [0] (st 87 [(4, .bool false)]) (H10_15 p0) ?_ ?_
    · refine QJ.rn (qs (S10_9 p2 r5) (H10_7 p0 r3 r5) [] []) 1 (QJ.o { val := .pointer (some ⟨4, 0 + (Int.toNat 0) * 2, none⟩) } (q_ixAcc (P := Try.prog) (t := 42) (s := 2) (e := 29) 4 r5.1.length (by kernel_rfl) hg27 (by kernel_rfl) (by kernel_rfl)) (QJ.rn (qs (S10_6 p2 r5) (H10_7 p0 r3 r5) [] []) 1 (QJ.o { val := iv o28.1 } (q_n1a Try.prog (H10_7 p0 r3 r5) 3 4 (0 + (Int.toNat 0) * 2) r5.1 e29 2 29 (Int.toNat 0) 0 (0, 0) h29) (QJ.rn (qs (S10_5 p2 r5 o28 r3) (H10_7 p0 r3 r5) [] []) 6 (QJ.o { val := .pointer (some ⟨4, 0 + (Int.toNat 0) * 2, none⟩) } (q_ixAcc (P := Try.prog) (t := 42) (s := 2) (e := 29) 4 r5.1.length (by kernel_rfl) hg27 (by kernel_rfl) (by kernel_rfl)) (QJ.rn (qs (S10_4 p2 r5 o28 r3) (H10_7 p0 r3 r5) [] []) 1 (QJ.o { val := iv o28.2 } (q_n1a Try.prog (H10_7 p0 r3 r5) 3 4 (0 + (Int.toNat 0) * 2 + 1) r5.1 e29 2 29 (Int.toNat 0) 1 (0, 0) h29) (QJ.rn (qs (S10_3 p2 r5 o28 r3) (H10_7 p0 r3 r5) [] []) 3 ?_))))))))
      exact QJ.o { val := .pointer (some ⟨4, 0 + (Int.toNat 0) * 2, none⟩) } (q_ixAcc (P := Try.prog) (t := 42) (s := 2) (e := 29) 4 r5.1.length (by kernel_rfl) hg27 (by kernel_rfl) (by kernel_rfl)) (QJ.rn (qs (S10_2 p2 r5 o28 r3) (H10_7 p0 r3 r5) [] []) 1 (QJ.o { val := iv o28.2 } (q_n1a Try.prog (H10_7 p0 r3 r5) 3 4 (0 + (Int.toNat 0) * 2 + 1) r5.1 e29 2 29 (Int.toNat 0) 1 (0, 0) h29) (QJ.rn (qs (S10_1 p2 r5 o28 r3) (H10_7 p0 r3 r5) [] []) 3 (QJ.o { val := ag [iv r30.1, iv r30.2], new := [] } (qOf_call (g := 44) (args := [iv (w64 ((w64 (o28.1 * r3.1.2)) + (w64 (r3.1.1 * o28.2)))), iv (w64 (o28.2 * r3.1.2))]) (by kernel_rfl) lookC_hit) (QJ.rn (qs (S10_0 p2 r5 o28 r3 r30) (H10_7 p0 r3 r5) [] []) 1 (QJ.dn ⟨rfl, (SJ.o { val := .bool false, new := [] } (qOf_call (g := 42) (args := [ag [iv r30.1, iv r30.2], iv (Int.tmod (w64 p2) 3600)]) (by kernel_rfl) (lookC_skip (fun hg => absurd (show (44 : Nat) = 42 from hg) (by decide)) lookC_hit)) SJ.la)⟩))))))
    exact hK
 rcases Bool.eq_false_or_eq_true (r3.2 != 0) with hc15 | hc15
 · replace hm38 := of_pos hm38 hc15
   have hm38 := sj hm38
   subst hm38
   exact TS.rg (TI.ra 1 [6, 7, 9, 10, 36] (S10_13 p2 r5 r3) (TI.o { val := .bool true } (q_conv (e := r3.2 != 0) (b := true) (by kernel_rfl) hc15) [6, 7, 9, 10, 37] [0, 3, 4] (st 87 [(6, iv (Int.tmod (w64 p2) 3600)), (7, pt 3 0), (9, accV 4 r5.1.length), (10, iv r5.2), (37, .bool true)]) (H10_7 p0 r3 r5) (TI.ra 21 [6, 7, 9, 58] (S10_14 p2 r5) (TI.dn hK))))
 replace hm38 := of_neg hm38 hc15
 rcases Bool.eq_false_or_eq_true (r5.2 != 0) with hc16 | hc16
 · replace hm38 := of_pos hm38 hc16
   have hm38 := sj hm38
   subst hm38
   exact TS.rg (TI.ra 1 [6, 7, 9, 10, 36] (S10_13 p2 r5 r3) (TI.o { val := .bool false } (q_conv (e := r3.2 != 0) (b := false) (by kernel_rfl) hc15) [6, 7, 9, 10, 37] [0, 3, 4] (S10_11 p2 r5) (H10_7 p0 r3 r5) (TI.ra 2 [6, 7, 9, 38, 39] (S10_12 p2 r5) (TI.o { val := .bool true } (q_conv (e := r5.2 != 0) (b := true) (by kernel_rfl) hc16) [6, 7, 9, 38, 40] [0, 3, 4] (st 87 [(6, iv (Int.tmod (w64 p2) 3600)), (7, pt 3 0), (9, accV 4 r5.1.length), (38, .bool false), (40, .bool true)]) (H10_7 p0 r3 r5) (TI.ra 18 [6, 7, 9, 58] (S10_14 p2 r5) (TI.dn hK))))))
 replace hm38 := of_neg hm38 hc16
 rcases Bool.eq_false_or_eq_true ((r5.1.length : Int) != 1) with hc17 | hc17
 · replace hm38 := of_pos hm38 hc17
   have hm38 := sj hm38
   subst hm38
   refine TS.rg (TI.ra 1 [6, 7, 9, 10, 36] (S10_13 p2 r5 r3) (TI.o { val := .bool false } (q_conv (e := r3.2 != 0) (b := false) (by kernel_rfl) hc15) [6, 7, 9, 10, 37] [0, 3, 4] (S10_11 p2 r5) (H10_7 p0 r3 r5) (TI.ra 2 [6, 7, 9, 38, 39] (S10_12 p2 r5) (TI.o { val := .bool false } (q_conv (e := r5.2 != 0) (b := false) (by kernel_rfl) hc16) [6, 7, 9, 38, 40] [0, 3, 4] (S10_10 p2 r5) (H10_7 p0 r3 r5) (TI.ra 4 [6, 7, 9, 42, 44] (S10_8 p2 r5) (TI.o { val := .bool true } (q_conv (e := (r5.1.length : Int) != 1) (b := true) (by kernel_rfl) hc17) [6, 7, 9, 42, 45] [0, 3, 4] (st 87 [(6, iv (Int.tmod (w64 p2) 3600)), (7, pt 3 0), (9, accV 4 r5.1.length), (42, .bool false), (45, .bool true)]) (H10_7 p0 r3 r5) (TI.ra 13 [6, 7, 9, 58] (S10_14 p2 r5) (TI.dn ?_))))))))
   exact hK
 replace hm38 := of_neg hm38 hc17
 have hX := of_do hm38
 clear hm38
 obtain ⟨r18, h19, hm38⟩ := hX
 rcases Bool.eq_false_or_eq_true (!r18) with hc20 | hc20
 · replace hm38 := of_pos hm38 hc20
   have hm38 := sj hm38
   subst hm38
   refine TS.rg (TI.ra 1 [6, 7, 9, 10, 36] (S10_13 p2 r5 r3) (TI.o { val := .bool false } (q_conv (e := r3.2 != 0) (b := false) (by kernel_rfl) hc15) [6, 7, 9, 10, 37] [0, 3, 4] (S10_11 p2 r5) (H10_7 p0 r3 r5) (TI.ra 2 [6, 7, 9, 38, 39] (S10_12 p2 r5) (TI.o { val := .bool false } (q_conv (e := r5.2 != 0) (b := false) (by kernel_rfl) hc16) [6, 7, 9, 38, 40] [0, 3, 4] (S10_10 p2 r5) (H10_7 p0 r3 r5) (TI.ra 4 [6, 7, 9, 42, 44] (S10_8 p2 r5) (TI.o { val := .bool false } (q_conv (e := (r5.1.length : Int) != 1) (b := false) (by kernel_rfl) hc17) [6, 7, 9, 42, 45] [0, 3, 4] (st 87 [(6, iv (Int.tmod (w64 p2) 3600)), (7, pt 3 0), (9, accV 4 r5.1.length), (42, .bool false), (45, .bool false)]) (H10_7 p0 r3 r5) (TI.ra 3 [6, 7, 9, 47, 48] (st 87 [(6, iv (Int.tmod (w64 p2) 3600)), (7, pt 3 0), (9, accV 4 r5.1.length), (47, .bool false), (48, ag [iv r3.1.1, iv r3.1.2])]) (TI.cm (PureSim.ak (C46 _ _ _ h19)) [6, 7, 9, 47, 49] [0, 3, 4] (st 87 [(6, iv (Int.tmod (w64 p2) 3600)), (7, pt 3 0), (9, accV 4 r5.1.length), (47, .bool false), (49, .bool r18)]) (H10_7 p0 r3 r5) ?_))))))))
   exact TI.o { val := .bool true } (q_conv (e := !r18) (b := true) (by kernel_rfl) hc20) [6, 7, 9, 47, 50] [0, 3, 4] (st 87 [(6, iv (Int.tmod (w64 p2) 3600)), (7, pt 3 0), (9, accV 4 r5.1.length), (47, .bool false), (50, .bool true)]) (H10_7 p0 r3 r5) (TI.ra 8 [6, 7, 9, 58] (S10_14 p2 r5) (TI.dn hK))
 replace hm38 := of_neg hm38 hc20
 have hX := of_guard hm38
 clear hm38
 obtain ⟨hg21, hm38⟩ := hX
 have hX := of_do hm38
 clear hm38
 obtain ⟨o22, h23, hm38⟩ := hX
 replace h23 := sj h23
 have hX := of_do hm38
 clear hm38
 obtain ⟨r24, h25, hm38⟩ := hX
 have hm38 := sj hm38
 subst hm38
 refine TS.rg (TI.ra 1 [6, 7, 9, 10, 36] (S10_13 p2 r5 r3) (TI.o { val := .bool false } (q_conv (e := r3.2 != 0) (b := false) (by kernel_rfl) hc15) [6, 7, 9, 10, 37] [0, 3, 4] (S10_11 p2 r5) (H10_7 p0 r3 r5) (TI.ra 2 [6, 7, 9, 38, 39] (S10_12 p2 r5) (TI.o { val := .bool false } (q_conv (e := r5.2 != 0) (b := false) (by kernel_rfl) hc16) [6, 7, 9, 38, 40] [0, 3, 4] (S10_10 p2 r5) (H10_7 p0 r3 r5) (TI.ra 4 [6, 7, 9, 42, 44] (S10_8 p2 r5) (TI.o { val := .bool false } (q_conv (e := (r5.1.length : Int) != 1) (b := false) (by kernel_rfl) hc17) [6, 7, 9, 42, 45] [0, 3, 4] (st 87 [(6, iv (Int.tmod (w64 p2) 3600)), (7, pt 3 0), (9, accV 4 r5.1.length), (42, .bool false), (45, .bool false)]) (H10_7 p0 r3 r5) (TI.ra 3 [6, 7, 9, 47, 48] (st 87 [(6, iv (Int.tmod (w64 p2) 3600)), (7, pt 3 0), (9, accV 4 r5.1.length), (47, .bool false), (48, ag [iv r3.1.1, iv r3.1.2])]) (TI.cm (PureSim.ak (C46 _ _ _ h19)) [6, 7, 9, 47, 49] [0, 3, 4] (st 87 [(6, iv (Int.tmod (w64 p2) 3600)), (7, pt 3 0), (9, accV 4 r5.1.length), (47, .bool false), (49, .bool r18)]) (H10_7 p0 r3 r5) ?_))))))))
 exact TI.o { val := .bool false } (q_conv (e := !r18) (b := false) (by kernel_rfl) hc20) [6, 7, 9, 47, 50] [0, 3, 4] (st 87 [(6, iv (Int.tmod (w64 p2) 3600)), (7, pt 3 0), (9, accV 4 r5.1.length), (47, .bool false), (50, .bool false)]) (H10_7 p0 r3 r5) (TI.ra 3 [6, 7, 9, 52, 53] (st 87 [(6, iv (Int.tmod (w64 p2) 3600)), (7, pt 3 0), (9, accV 4 r5.1.length), (52, .bool false), (53, accV 4 r5.1.length)]) (TI.o { val := .pointer (some ⟨4, 0 + (Int.toNat 0) * 2, none⟩) } (q_ixAcc (P := Try.prog) (t := 42) (s := 2) (e := 29) 4 r5.1.length (by kernel_rfl) hg21 (by kernel_rfl) (by kernel_rfl)) [6, 7, 9, 52, 54] [0, 3, 4] (st 87 [(6, iv (Int.tmod (w64 p2) 3600)), (7, pt 3 0), (9, accV 4 r5.1.length), (52, .bool false), (54, .pointer (some ⟨4, 0 + (Int.toNat 0) * 2, none⟩))]) (H10_7 p0 r3 r5) (TI.o { val := ag [iv o22.1, iv o22.2] } (q_nAa Try.prog (H10_7 p0 r3 r5) 29 4 (0 + (Int.toNat 0) * 2) r5.1 e29 2 29 (Int.toNat 0) (0, 0) h23) [6, 7, 9, 52, 55] [0, 3, 4] (st 87 [(6, iv (Int.tmod (w64 p2) 3600)), (7, pt 3 0), (9, accV 4 r5.1.length), (52, .bool false), (55, ag [iv o22.1, iv o22.2])]) (H10_7 p0 r3 r5) (TI.cf (C40 _ _ _ _ h25) (TI.ra 2 [6, 7, 9, 58] (st 87 [(6, iv (Int.tmod (w64 p2) 3600)), (7, pt 3 0), (9, accV 4 r5.1.length), (58, .bool (!r24))]) (TI.dn hK))))))
theorem C10 (p0 : List I2) (p1 p2 : Int) (r : Bool) (hF : F10 p0 p1 p2 = some r) : PureSim Try.prog 10 [ag [sv 0 p0.length ANY, .int .u8 p1], .int .u16 p2] [ab 81 e81 p0] (V10 1 r) (N10 1 r) :=
 PureSim.of_Fin Try.func10 (c := c10) (by kernel_rfl) (by kernel_rfl) 1 rfl [0, 1] [0] (by kernel_rfl) (B10 p0 p1 p2 r hF)
end
end Go.Proofs.Ythpfffijnkmdgaa
