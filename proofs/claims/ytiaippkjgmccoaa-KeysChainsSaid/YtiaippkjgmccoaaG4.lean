/- What functions of the program compute, and that they do. -/
import Derived.Test.YtiaippkjgmccoaaKF
import Derived.Test.YtiaippkjgmccoaaGiven
set_option linter.unusedVariables false
set_option linter.unusedSimpArgs false
set_option maxRecDepth 100000
set_option maxHeartbeats 4000000
namespace Go.Proofs.Ytiaippkjgmccoaa
open Go Go.Cl
noncomputable section
noncomputable def c4 : Code := Try.f4.code
def S4_0 (r7 : (List (Int × Bool)) × Int) (r9 : I2) (o24 : Int × Bool) (p2 : Int) (p3 : Bool) (o28 : Int × Bool) (p4 : Int) (p5 : Bool) (r5 : Int × (List ((Int × Bool) × (Int × Bool)))) : CAct := (st 86 [(5, pt 3 0), (6, pt 4 0), (9, pt 6 0), (10, sv 7 r7.1.length ANY), (12, iv r9.1), (60, .bool (r9.2 != 0)), (62, sv 7 r7.1.length ANY), (63, .pointer (some ⟨7, 0 + (Int.toNat 0) * 2, none⟩)), (64, ag [iv o24.1, .bool o24.2]), (65, ag [iv p2, .bool p3]), (66, .bool true), (67, .bool true), (68, sv 7 r7.1.length ANY), (69, iv r9.1), (70, iv (w64 (r9.1 - 1))), (71, .pointer (some ⟨7, 0 + (Int.toNat (w64 (r9.1 - 1))) * 2, none⟩)), (72, ag [iv o28.1, .bool o28.2]), (73, ag [iv p4, .bool p5]), (74, .bool true), (75, .bool true), (76, .bool true), (77, ag [iv r5.1, accV 5 r5.2.length]), (78, sv 7 r7.1.length ANY)])
def S4_1 (r7 : (List (Int × Bool)) × Int) (r9 : I2) (o24 : Int × Bool) (p2 : Int) (p3 : Bool) (o28 : Int × Bool) (p4 : Int) (p5 : Bool) : CAct := (st 86 [(5, pt 3 0), (6, pt 4 0), (9, pt 6 0), (10, sv 7 r7.1.length ANY), (12, iv r9.1), (60, .bool (r9.2 != 0)), (62, sv 7 r7.1.length ANY), (63, .pointer (some ⟨7, 0 + (Int.toNat 0) * 2, none⟩)), (64, ag [iv o24.1, .bool o24.2]), (65, ag [iv p2, .bool p3]), (66, .bool true), (67, .bool true), (68, sv 7 r7.1.length ANY), (69, iv r9.1), (70, iv (w64 (r9.1 - 1))), (71, .pointer (some ⟨7, 0 + (Int.toNat (w64 (r9.1 - 1))) * 2, none⟩)), (72, ag [iv o28.1, .bool o28.2]), (73, ag [iv p4, .bool p5])])
def S4_2 (r7 : (List (Int × Bool)) × Int) (r9 : I2) (o24 : Int × Bool) (p2 : Int) (p3 : Bool) : CAct := (st 86 [(5, pt 3 0), (6, pt 4 0), (9, pt 6 0), (10, sv 7 r7.1.length ANY), (12, iv r9.1), (60, .bool (r9.2 != 0)), (62, sv 7 r7.1.length ANY), (63, .pointer (some ⟨7, 0 + (Int.toNat 0) * 2, none⟩)), (64, ag [iv o24.1, .bool o24.2]), (65, ag [iv p2, .bool p3]), (66, .bool true), (67, .bool true), (68, sv 7 r7.1.length ANY), (69, iv r9.1), (70, iv (w64 (r9.1 - 1)))])
def H4_3 (p1 : List ((Int × Bool) × (Int × Bool))) (p6 : List (Int × Bool)) (p0 p2 : Int) (p3 : Bool) (p4 : Int) (p5 : Bool) (r5 : Int × (List ((Int × Bool) × (Int × Bool)))) (r7 : (List (Int × Bool)) × Int) (r15 : List (Int × Bool)) : List Blk := [ab 86 e86 p1, ab 50 e50 p6, cl 24 [iv p0, sv 0 p1.length ANY], cl 50 [iv p2, .bool p3], cl 50 [iv p4, .bool p5], ab 93 e93 r5.2, cl 30 [iv r5.1, accV 5 r5.2.length], ab 50 e50 r7.1, ab 55 e55 r15]
def S4_4 (p6 : List (Int × Bool)) (r7 : (List (Int × Bool)) × Int) (r9 : I2) : CAct := (st 86 [(3, sv 1 p6.length ANY), (4, pt 2 0), (5, pt 3 0), (6, pt 4 0), (9, pt 6 0), (10, sv 7 r7.1.length ANY), (11, iv r7.2), (12, iv r9.1), (13, iv r9.2), (40, iv r7.2), (41, iv r9.2), (42, .bool false), (43, .bool false), (44, sv 7 r7.1.length ANY), (45, iv (r7.1.length : Int)), (46, iv r9.1)])
def H4_5 (p1 : List ((Int × Bool) × (Int × Bool))) (p6 : List (Int × Bool)) (p0 p2 : Int) (p3 : Bool) (p4 : Int) (p5 : Bool) (r5 : Int × (List ((Int × Bool) × (Int × Bool)))) (r7 : (List (Int × Bool)) × Int) : List Blk := [ab 86 e86 p1, ab 50 e50 p6, cl 24 [iv p0, sv 0 p1.length ANY], cl 50 [iv p2, .bool p3], cl 50 [iv p4, .bool p5], ab 93 e93 r5.2, cl 30 [iv r5.1, accV 5 r5.2.length], ab 50 e50 r7.1]
def H4_6 (p1 : List ((Int × Bool) × (Int × Bool))) (p6 : List (Int × Bool)) (p2 : Int) (p3 : Bool) (p4 : Int) (p5 : Bool) (r5 : Int × (List ((Int × Bool) × (Int × Bool)))) (r7 : (List (Int × Bool)) × Int) (r31 : List (Int × Bool)) : List Blk := [ab 86 e86 p1, ab 50 e50 p6, .dead, cl 50 [iv p2, .bool p3], cl 50 [iv p4, .bool p5], ab 93 e93 r5.2, cl 30 [iv r5.1, accV 5 r5.2.length], ab 50 e50 r7.1, .dead, ab 55 e55 r31]
def S4_7 (r7 : (List (Int × Bool)) × Int) (r9 : I2) (o24 : Int × Bool) (p2 : Int) (p3 : Bool) : CAct := (st 86 [(5, pt 3 0), (6, pt 4 0), (9, pt 6 0), (10, sv 7 r7.1.length ANY), (12, iv r9.1), (60, .bool (r9.2 != 0)), (62, sv 7 r7.1.length ANY), (63, .pointer (some ⟨7, 0 + (Int.toNat 0) * 2, none⟩)), (64, ag [iv o24.1, .bool o24.2]), (65, ag [iv p2, .bool p3])])
def H4_8 (p1 : List ((Int × Bool) × (Int × Bool))) (p6 : List (Int × Bool)) (p2 : Int) (p3 : Bool) (p4 : Int) (p5 : Bool) (r5 : Int × (List ((Int × Bool) × (Int × Bool)))) (r7 : (List (Int × Bool)) × Int) : List Blk := [ab 86 e86 p1, ab 50 e50 p6, .dead, cl 50 [iv p2, .bool p3], cl 50 [iv p4, .bool p5], ab 93 e93 r5.2, cl 30 [iv r5.1, accV 5 r5.2.length], ab 50 e50 r7.1, .dead]
def S4_9 (p6 : List (Int × Bool)) (r7 : (List (Int × Bool)) × Int) (r9 : I2) : CAct := (st 86 [(3, sv 1 p6.length ANY), (4, pt 2 0), (5, pt 3 0), (6, pt 4 0), (9, pt 6 0), (10, sv 7 r7.1.length ANY), (11, iv r7.2), (12, iv r9.1), (13, iv r9.2), (40, iv r7.2), (41, iv r9.2)])
def H4_10 (p1 : List ((Int × Bool) × (Int × Bool))) (p6 : List (Int × Bool)) (p0 p2 : Int) (p3 : Bool) (p4 : Int) (p5 : Bool) : List Blk := [ab 86 e86 p1, ab 50 e50 p6, cl 24 [iv p0, sv 0 p1.length ANY], cl 50 [iv p2, .bool p3], cl 50 [iv p4, .bool p5]]
def S4_11 (r7 : (List (Int × Bool)) × Int) (r9 : I2) : CAct := (st 86 [(5, pt 3 0), (6, pt 4 0), (9, pt 6 0), (10, sv 7 r7.1.length ANY), (12, iv r9.1), (60, .bool (r9.2 != 0)), (62, sv 7 r7.1.length ANY)])
def H4_12 (p1 : List ((Int × Bool) × (Int × Bool))) (p6 : List (Int × Bool)) : List Blk := [ab 86 e86 p1, ab 50 e50 p6, .dead, .dead, .dead, .dead, .dead, .dead, .dead, .dead]
def S4_13 (r7 : (List (Int × Bool)) × Int) (r9 : I2) : CAct := (st 86 [(5, pt 3 0), (6, pt 4 0), (9, pt 6 0), (10, sv 7 r7.1.length ANY), (12, iv r9.1), (13, iv r9.2), (58, .bool true)])
def H4_14 (p1 : List ((Int × Bool) × (Int × Bool))) (p6 : List (Int × Bool)) : List Blk := [ab 86 e86 p1, ab 50 e50 p6, .dead, .dead, .dead, .dead, .dead, .dead, .dead]
def H4_15 (p1 : List ((Int × Bool) × (Int × Bool))) (p6 : List (Int × Bool)) : List Blk := [ab 86 e86 p1, ab 50 e50 p6]
def F4 (p0 : Int) (p1 : List ((Int × Bool) × (Int × Bool))) (p2 : Int) (p3 : Bool) (p4 : Int) (p5 : Bool) (p6 : List (Int × Bool)) : Option Bool :=
 (
  if decide ((p1.length : Int) > 100) then
   some (true)
  else
   some (decide ((p6.length : Int) > 120))
 : Option Bool) >>= fun m2 =>
 if m2 then
  F15 >>= fun r3 =>
  some r3
 else
  F16 p0 p1 >>= fun r5 =>
  F28 p0 p1 p2 p3 p4 p5 >>= fun r7 =>
  F29 r5.1 r5.2 p2 p3 p4 p5 >>= fun r9 =>
  (
   if r7.2 != r9.2 then
    some (true)
   else
    if (r7.1.length : Int) != r9.1 then
     some (true)
    else
     F30 p0 p1 p6 >>= fun r13 =>
     F17 p6 >>= fun r15 =>
     F31 r5.1 r5.2 r15 >>= fun r17 =>
     some (r13 != r17)
  : Option Bool) >>= fun m19 =>
  if m19 then
   some false
  else
   if r9.2 != 0 then
    F15 >>= fun r21 =>
    some r21
   else
    if (0 : Int) ≤ 0 ∧ 0 < (r7.1.length : Int) then
     some (List.getD r7.1 (Int.toNat 0) (0, false)) >>= fun o24 =>
     (
      if ((o24.1 == p2) && ((o24.2 == p3) && true)) then
       if (0 : Int) ≤ w64 (r9.1 - 1) ∧ w64 (r9.1 - 1) < (r7.1.length : Int) then
        some (List.getD r7.1 (Int.toNat (w64 (r9.1 - 1))) (0, false)) >>= fun o28 =>
        if ((o28.1 == p4) && ((o28.2 == p5) && true)) then
         F17 r7.1 >>= fun r31 =>
         F31 r5.1 r5.2 r31 >>= fun r33 =>
         if r33 == 0 then
          F15 >>= fun r36 =>
          some (r36)
         else
          some (false)
        else
         some (false)
       else none
      else
       some (false)
     : Option Bool) >>= fun m38 =>
     some m38
    else none
def V4 (b : Nat) (r : Bool) : Value := .bool r
def N4 (b : Nat) (r : Bool) : List Blk := []
theorem B4 (p0 : Int) (p1 : List ((Int × Bool) × (Int × Bool))) (p2 : Int) (p3 : Bool) (p4 : Int) (p5 : Bool) (p6 : List (Int × Bool)) (r : Bool) (hF : F4 p0 p1 p2 p3 p4 p5 p6 = some r) : TS Try.prog 2 2 c4 (st 86 [(0, ag [iv p0, sv 0 p1.length ANY]), (1, ag [iv p2, .bool p3]), (2, ag [iv p4, .bool p5]), (3, sv 1 p6.length ANY)]) (H4_15 p1 p6) (NX Try.prog 2 2 [] (FinP Try.prog Try.f4 2 (V4 2 r) (N4 2 r))) := by
 unfold F4 at hF
 refine TS.sq (TS.rg (TI.rn 4 [3, 4, 5, 6] [0, 1, 2, 3, 4] (st 86 [(3, sv 1 p6.length ANY), (4, pt 2 0), (5, pt 3 0), (6, pt 4 0)]) (H4_10 p1 p6 p0 p2 p3 p4 p5) (TI.dn (NX.sq (TS.sq (TS.sq ?_))))))
 obtain ⟨m2, hm41, hF⟩ := of_do hF
 have hK : NX Try.prog 2 2 [.sq c4.s2.s1.s2, .sq c4.s2.s2] (FinP Try.prog Try.f4 2 (V4 2 r) (N4 2 r)) .normal (st 86 [(3, sv 1 p6.length ANY), (4, pt 2 0), (5, pt 3 0), (6, pt 4 0), (22, .bool m2)]) (H4_10 p1 p6 p0 p2 p3 p4 p5) := by
  refine NX.sq ?_
  cases m2 with
  | true =>
   replace hF := of_pos hF rfl
   refine TS.cdT (.tmp 22) (TS.sq ?_)
   obtain ⟨r3, h4, hF⟩ := of_do hF
   refine TS.rg (TI.cf (C15 _ h4) (TI.rn 1 [8] [0, 1] (st 86 [(8, .bool r3)]) [ab 86 e86 p1, ab 50 e50 p6, .dead, .dead, .dead] (TI.dn (NX.sq (TS.rt (NX.sqR ?_))))))
   have hF := sj hF
   subst hF
   exact ⟨.inr rfl, rfl, .bool r3, by kernel_rfl, WkV.flat0 (by kernel_rfl) (nl rfl)⟩
  | false =>
   replace hF := of_neg hF rfl
   refine TS.cdF (.tmp 22) (TS.sk (NX.sq (TS.sq ?_)))
   obtain ⟨r5, h6, hF⟩ := of_do hF
   refine TS.rg (TI.ra 1 [3, 4, 5, 6, 24] (st 86 [(3, sv 1 p6.length ANY), (4, pt 2 0), (5, pt 3 0), (6, pt 4 0), (24, ag [iv p0, sv 0 p1.length ANY])]) (TI.cp 16 [ag [iv p0, sv 0 p1.length ANY]] (ag [iv r5.1, accV 5 r5.2.length]) [ab 93 e93 r5.2] (PureSim.ren (hc := [ab 86 e86 p1]) (fun i => List.getD [(0, 0)] i (0, 0)) (C16 _ _ _ h6) (.ac (.nil _)) (.cons (Rn.agg' (.fl (.cons (Rn.any _ _ _ _ _ _ (nl rfl) rfl rfl (by decide)) .nil))) .nil) (Rn.agg' (.fl (.cons (Rn.acc (i' := 5) (nl rfl) rfl) .nil))) (newflat_cons (accB_flat (fun _ => rfl)) newflat_nil)) (TI.rn 2 [3, 4, 5, 6, 9] [0, 1, 2, 3, 4, 5, 6] (st 86 [(3, sv 1 p6.length ANY), (4, pt 2 0), (5, pt 3 0), (6, pt 4 0), (9, pt 6 0)]) [ab 86 e86 p1, ab 50 e50 p6, cl 24 [iv p0, sv 0 p1.length ANY], cl 50 [iv p2, .bool p3], cl 50 [iv p4, .bool p5], ab 93 e93 r5.2, cl 30 [iv r5.1, accV 5 r5.2.length]] (TI.dn (NX.sq (TS.sq ?_))))))
   obtain ⟨r7, h8, hF⟩ := of_do hF
   refine TS.rg (TI.ra 3 [3, 4, 5, 6, 9, 27, 28, 29] (st 86 [(3, sv 1 p6.length ANY), (4, pt 2 0), (5, pt 3 0), (6, pt 4 0), (9, pt 6 0), (27, ag [iv p0, sv 0 p1.length ANY]), (28, ag [iv p2, .bool p3]), (29, ag [iv p4, .bool p5])]) (TI.cp 28 [ag [iv p0, sv 0 p1.length ANY], ag [iv p2, .bool p3], ag [iv p4, .bool p5]] (.tuple ⟨[sv 7 r7.1.length ANY, iv r7.2]⟩) [ab 50 e50 r7.1] (PureSim.ren (hc := [ab 86 e86 p1]) (fun i => List.getD [(0, 0)] i (0, 0)) (C28 _ _ _ _ _ _ _ h8) (.ac (.nil _)) (.cons (Rn.agg' (.fl (.cons (Rn.any _ _ _ _ _ _ (nl rfl) rfl rfl (by decide)) .nil))) (.fl (.fl .nil))) (Rn.tuple' (.cons (Rn.anyS (i' := 7) (nl rfl) rfl rfl) (.fl .nil))) (newflat_cons (accB_flat (fun _ => rfl)) newflat_nil)) (TI.rn 5 [3, 4, 5, 6, 9, 10, 11] [0, 1, 2, 3, 4, 5, 6, 7] (st 86 [(3, sv 1 p6.length ANY), (4, pt 2 0), (5, pt 3 0), (6, pt 4 0), (9, pt 6 0), (10, sv 7 r7.1.length ANY), (11, iv r7.2)]) (H4_5 p1 p6 p0 p2 p3 p4 p5 r5 r7) (TI.dn (NX.sq (TS.sq ?_))))))
   obtain ⟨r9, h10, hF⟩ := of_do hF
   refine TS.rg (TI.ra 3 [3, 4, 5, 6, 9, 10, 11, 34, 35, 36] (st 86 [(3, sv 1 p6.length ANY), (4, pt 2 0), (5, pt 3 0), (6, pt 4 0), (9, pt 6 0), (10, sv 7 r7.1.length ANY), (11, iv r7.2), (34, ag [iv r5.1, accV 5 r5.2.length]), (35, ag [iv p2, .bool p3]), (36, ag [iv p4, .bool p5])]) (TI.cp 29 [ag [iv r5.1, accV 5 r5.2.length], ag [iv p2, .bool p3], ag [iv p4, .bool p5]] (.tuple ⟨[iv r9.1, iv r9.2]⟩) [] (PureSim.ren (hc := [ab 93 e93 r5.2]) (fun i => List.getD [(5, 0)] i (0, 0)) (C29 _ _ _ _ _ _ _ h10) (.ac (.nil _)) (.cons (Rn.agg' (.fl (.cons (Rn.accA (i' := 5) (nl rfl) rfl) .nil))) (.fl (.fl .nil))) (.flat (by kernel_rfl)) newflat_nil) (TI.ra 5 [3, 4, 5, 6, 9, 10, 11, 12, 13] (st 86 [(3, sv 1 p6.length ANY), (4, pt 2 0), (5, pt 3 0), (6, pt 4 0), (9, pt 6 0), (10, sv 7 r7.1.length ANY), (11, iv r7.2), (12, iv r9.1), (13, iv r9.2)]) (TI.dn (NX.sq (TS.sq (TS.sq ?_)))))))
   obtain ⟨m19, hm40, hF⟩ := of_do hF
   have hK : NX Try.prog 2 2 [.sq c4.s2.s2.s2.s2.s2.s1.s2, .sq c4.s2.s2.s2.s2.s2.s2] (FinP Try.prog Try.f4 2 (V4 2 r) (N4 2 r)) .normal (st 86 [(5, pt 3 0), (6, pt 4 0), (9, pt 6 0), (10, sv 7 r7.1.length ANY), (12, iv r9.1), (13, iv r9.2), (58, .bool m19)]) (H4_8 p1 p6 p2 p3 p4 p5 r5 r7) := by
    refine NX.sq ?_
    cases m19 with
    | true =>
     replace hF := of_pos hF rfl
     refine TS.cdT (.tmp 58) (TS.sq (TS.rg (TI.rn 1 [8] [0, 1] (st 86 [(8, .bool false)]) (H4_14 p1 p6) (TI.dn (NX.sq (TS.rt (NX.sqR ?_)))))))
     have hF := sj hF
     subst hF
     exact ⟨.inr rfl, rfl, .bool false, by kernel_rfl, WkV.flat0 (by kernel_rfl) (nl rfl)⟩
    | false =>
     replace hF := of_neg hF rfl
     refine TS.cdF (.tmp 58) (TS.sk (NX.sq (TS.sq (TS.sq (TS.rg (TI.ra 2 [5, 6, 9, 10, 12, 60] (st 86 [(5, pt 3 0), (6, pt 4 0), (9, pt 6 0), (10, sv 7 r7.1.length ANY), (12, iv r9.1), (60, .bool (r9.2 != 0))]) (TI.dn (NX.sq ?_))))))))
     refine TS.cd (.tmp 60) (r9.2 != 0) (fun hc20 => ?_) (fun hc20 => ?_)
     · replace hF := of_pos hF hc20
       refine TS.sq ?_
       obtain ⟨r21, h22, hF⟩ := of_do hF
       refine TS.rg (TI.cf (C15 _ h22) (TI.rn 1 [8] [0, 1] (st 86 [(8, .bool r21)]) (H4_14 p1 p6) (TI.dn (NX.sq (TS.rt (NX.sqR ?_))))))
       have hF := sj hF
       subst hF
       exact ⟨.inr rfl, rfl, .bool r21, by kernel_rfl, WkV.flat0 (by kernel_rfl) (nl rfl)⟩
     replace hF := of_neg hF hc20
     refine TS.sk (NX.sq (TS.sq ?_))
     obtain ⟨hg23, hF⟩ := of_guard hF
     obtain ⟨o24, h25, hF⟩ := of_do hF
     replace h25 := sj h25
     obtain ⟨m38, hm39, hF⟩ := of_do hF
     have hK : NX Try.prog 2 2 [.sq c4.s2.s2.s2.s2.s2.s2.s2.s2] (FinP Try.prog Try.f4 2 (V4 2 r) (N4 2 r)) .normal (st 86 [(8, .bool m38)]) (H4_12 p1 p6) := by
      refine NX.sq (TS.rt ?_)
      have hF := sj hF
      subst hF
      exact ⟨.inr rfl, rfl, .bool m38, by kernel_rfl, WkV.flat0 (by kernel_rfl) (nl rfl)⟩
     rcases Bool.eq_false_or_eq_true (((o24.1 == p2) && ((o24.2 == p3) && true))) with hc26 | hc26
     · replace hm39 := of_pos hm39 hc26
       have hX := of_guard hm39
       clear hm39
       obtain ⟨hg27, hm39⟩ := hX
       have hX := of_do hm39
       clear hm39
       obtain ⟨o28, h29, hm39⟩ := hX
       replace h29 := sj h29
       rcases Bool.eq_false_or_eq_true (((o28.1 == p4) && ((o28.2 == p5) && true))) with hc30 | hc30
       · replace hm39 := of_pos hm39 hc30
         have hX := of_do hm39
         clear hm39
         obtain ⟨r31, h32, hm39⟩ := hX
         have hX := of_do hm39
         clear hm39
         obtain ⟨r33, h34, hm39⟩ := hX
         rcases Bool.eq_false_or_eq_true (r33 == 0) with hc35 | hc35
         · replace hm39 := of_pos hm39 hc35
           have hX := of_do hm39
           clear hm39
           obtain ⟨r36, h37, hm39⟩ := hX
           have hm39 := sj hm39
           subst hm39
           have hT : ∀ e ∈ ([⟨17, [sv 7 r7.1.length ANY], (H4_8 p1 p6 p2 p3 p4 p5 r5 r7), accV 9 r31.length, [ab 55 e55 r31]⟩, ⟨31, [ag [iv r5.1, accV 5 r5.2.length], accV 9 r31.length], (H4_6 p1 p6 p2 p3 p4 p5 r5 r7 r31), iv r33, []⟩, ⟨15, [], (H4_6 p1 p6 p2 p3 p4 p5 r5 r7 r31), .bool r36, []⟩] : List Entry), PureSim Try.prog e.g e.args e.h e.v e.new := by
            intro e he
            simp only [List.mem_cons, List.not_mem_nil, or_false] at he
            rcases he with rfl | rfl | rfl
            · exact (PureSim.ren (hc := [ab 50 e50 r7.1]) (fun i => List.getD [(7, 0)] i (0, 0)) (C17 _ _ h32) (.ac (.nil _)) (.cons (Rn.any _ _ _ _ _ _ (nl rfl) rfl rfl (by decide)) .nil) (Rn.acc (i' := 9) (nl rfl) rfl) (newflat_cons (accB_flat (fun _ => rfl)) newflat_nil))
            · exact (PureSim.ren (hc := [ab 93 e93 r5.2, ab 55 e55 r31]) (fun i => List.getD [(5, 0), (9, 0)] i (0, 0)) (C31 _ _ _ _ h34) (.ac (.ac (.nil _))) (.cons (Rn.agg' (.fl (.cons (Rn.accA (i' := 5) (nl rfl) rfl) .nil))) (.cons (Rn.accA (i' := 9) (nl rfl) rfl) .nil)) (.flat (by kernel_rfl)) newflat_nil)
            exact PureSim.ak (C15 _ h37)
           refine TS.dp [⟨17, [sv 7 r7.1.length ANY], (H4_8 p1 p6 p2 p3 p4 p5 r5 r7), accV 9 r31.length, [ab 55 e55 r31]⟩, ⟨31, [ag [iv r5.1, accV 5 r5.2.length], accV 9 r31.length], (H4_6 p1 p6 p2 p3 p4 p5 r5 r7 r31), iv r33, []⟩, ⟨15, [], (H4_6 p1 p6 p2 p3 p4 p5 r5 r7 r31), .bool r36, []⟩] hT mixed 18 [8] [0, 1] (st 86 [(8, .bool r36)]) (H4_12 p1 p6) ?_ ?_
           · refine QJ.rn (qs (S4_11 r7 r9) (H4_8 p1 p6 p2 p3 p4 p5 r5 r7) [] []) 1 (QJ.o { val := .pointer (some ⟨7, 0 + (Int.toNat 0) * 2, none⟩) } (q_ixS 7 0 ((Int.toNat 0) * 2) (by kernel_rfl) hg23) (QJ.o { val := ag [iv o24.1, .bool o24.2] } (q_nAa Try.prog (H4_8 p1 p6 p2 p3 p4 p5 r5 r7) 50 7 (0 + (Int.toNat 0) * 2) r7.1 e50 2 50 (Int.toNat 0) (0, false) h25) (QJ.rn (qs (S4_7 r7 r9 o24 p2 p3) (H4_8 p1 p6 p2 p3 p4 p5 r5 r7) [] []) 1 (QJ.o { val := .bool true } (q_conv (e := ((o24.1 == p2) && ((o24.2 == p3) && true))) (b := true) (by kernel_rfl) hc26) (QJ.rn (qs (S4_2 r7 r9 o24 p2 p3) (H4_8 p1 p6 p2 p3 p4 p5 r5 r7) [] []) 4 (QJ.o { val := .pointer (some ⟨7, 0 + (Int.toNat (w64 (r9.1 - 1))) * 2, none⟩) } (q_ixS 7 0 ((Int.toNat (w64 (r9.1 - 1))) * 2) (by kernel_rfl) hg27) (QJ.o { val := ag [iv o28.1, .bool o28.2] } (q_nAa Try.prog (H4_8 p1 p6 p2 p3 p4 p5 r5 r7) 50 7 (0 + (Int.toNat (w64 (r9.1 - 1))) * 2) r7.1 e50 2 50 (Int.toNat (w64 (r9.1 - 1))) (0, false) h29) (QJ.rn (qs (S4_1 r7 r9 o24 p2 p3 o28 p4 p5) (H4_8 p1 p6 p2 p3 p4 p5 r5 r7) [] []) 1 ?_))))))))
             exact QJ.o { val := .bool true } (q_conv (e := ((o28.1 == p4) && ((o28.2 == p5) && true))) (b := true) (by kernel_rfl) hc30) (QJ.rn (qs (S4_0 r7 r9 o24 p2 p3 o28 p4 p5 r5) (H4_8 p1 p6 p2 p3 p4 p5 r5 r7) [] []) 4 (QJ.o { val := accV 9 r31.length, new := [ab 55 e55 r31] } (qOf_call (g := 17) (args := [sv 7 r7.1.length ANY]) (by kernel_rfl) lookC_hit) (QJ.dn ⟨rfl, (SJ.o { val := iv r33, new := [] } (qOf_call (g := 31) (args := [ag [iv r5.1, accV 5 r5.2.length], accV 9 r31.length]) (by kernel_rfl) (lookC_skip (fun hg => absurd (show (17 : Nat) = 31 from hg) (by decide)) lookC_hit)) (SJ.o { val := .bool true } (q_conv (e := r33 == 0) (b := true) (by kernel_rfl) hc35) (SJ.rn (st 86 [(5, pt 3 0), (6, pt 4 0), (9, pt 6 0), (10, sv 7 r7.1.length ANY), (12, iv r9.1), (60, .bool (r9.2 != 0)), (62, sv 7 r7.1.length ANY), (63, .pointer (some ⟨7, 0 + (Int.toNat 0) * 2, none⟩)), (64, ag [iv o24.1, .bool o24.2]), (65, ag [iv p2, .bool p3]), (66, .bool true), (67, .bool true), (68, sv 7 r7.1.length ANY), (69, iv r9.1), (70, iv (w64 (r9.1 - 1))), (71, .pointer (some ⟨7, 0 + (Int.toNat (w64 (r9.1 - 1))) * 2, none⟩)), (72, ag [iv o28.1, .bool o28.2]), (73, ag [iv p4, .bool p5]), (74, .bool true), (75, .bool true), (76, .bool true), (77, ag [iv r5.1, accV 5 r5.2.length]), (78, sv 7 r7.1.length ANY), (79, accV 9 r31.length), (80, iv r33), (81, .bool true), (82, .bool true), (83, .bool true)]) (H4_6 p1 p6 p2 p3 p4 p5 r5 r7 r31) 2 (SJ.o { val := .bool r36, new := [] } (qOf_call (g := 15) (args := []) (by kernel_rfl) (lookC_skip (fun hg => absurd (show (17 : Nat) = 15 from hg) (by decide)) (lookC_skip (fun hg => absurd (show (31 : Nat) = 15 from hg) (by decide)) lookC_hit))) SJ.la))))⟩)))
           exact hK
         replace hm39 := of_neg hm39 hc35
         have hm39 := sj hm39
         subst hm39
         have hT : ∀ e ∈ ([⟨17, [sv 7 r7.1.length ANY], (H4_8 p1 p6 p2 p3 p4 p5 r5 r7), accV 9 r31.length, [ab 55 e55 r31]⟩, ⟨31, [ag [iv r5.1, accV 5 r5.2.length], accV 9 r31.length], (H4_6 p1 p6 p2 p3 p4 p5 r5 r7 r31), iv r33, []⟩] : List Entry), PureSim Try.prog e.g e.args e.h e.v e.new := by
          intro e he
          simp only [List.mem_cons, List.not_mem_nil, or_false] at he
          rcases he with rfl | rfl
          · exact (PureSim.ren (hc := [ab 50 e50 r7.1]) (fun i => List.getD [(7, 0)] i (0, 0)) (C17 _ _ h32) (.ac (.nil _)) (.cons (Rn.any _ _ _ _ _ _ (nl rfl) rfl rfl (by decide)) .nil) (Rn.acc (i' := 9) (nl rfl) rfl) (newflat_cons (accB_flat (fun _ => rfl)) newflat_nil))
          exact (PureSim.ren (hc := [ab 93 e93 r5.2, ab 55 e55 r31]) (fun i => List.getD [(5, 0), (9, 0)] i (0, 0)) (C31 _ _ _ _ h34) (.ac (.ac (.nil _))) (.cons (Rn.agg' (.fl (.cons (Rn.accA (i' := 5) (nl rfl) rfl) .nil))) (.cons (Rn.accA (i' := 9) (nl rfl) rfl) .nil)) (.flat (by kernel_rfl)) newflat_nil)
         refine TS.dp [⟨17, [sv 7 r7.1.length ANY], (H4_8 p1 p6 p2 p3 p4 p5 r5 r7), accV 9 r31.length, [ab 55 e55 r31]⟩, ⟨31, [ag [iv r5.1, accV 5 r5.2.length], accV 9 r31.length], (H4_6 p1 p6 p2 p3 p4 p5 r5 r7 r31), iv r33, []⟩] hT mixed 18 [8] [0, 1] (st 86 [(8, .bool false)]) (H4_12 p1 p6) ?_ ?_
         · refine QJ.rn (qs (S4_11 r7 r9) (H4_8 p1 p6 p2 p3 p4 p5 r5 r7) [] []) 1 (QJ.o { val := .pointer (some ⟨7, 0 + (Int.toNat 0) * 2, none⟩) } (q_ixS 7 0 ((Int.toNat 0) * 2) (by kernel_rfl) hg23) (QJ.o { val := ag [iv o24.1, .bool o24.2] } (q_nAa Try.prog (H4_8 p1 p6 p2 p3 p4 p5 r5 r7) 50 7 (0 + (Int.toNat 0) * 2) r7.1 e50 2 50 (Int.toNat 0) (0, false) h25) (QJ.rn (qs (S4_7 r7 r9 o24 p2 p3) (H4_8 p1 p6 p2 p3 p4 p5 r5 r7) [] []) 1 (QJ.o { val := .bool true } (q_conv (e := ((o24.1 == p2) && ((o24.2 == p3) && true))) (b := true) (by kernel_rfl) hc26) (QJ.rn (qs (S4_2 r7 r9 o24 p2 p3) (H4_8 p1 p6 p2 p3 p4 p5 r5 r7) [] []) 4 (QJ.o { val := .pointer (some ⟨7, 0 + (Int.toNat (w64 (r9.1 - 1))) * 2, none⟩) } (q_ixS 7 0 ((Int.toNat (w64 (r9.1 - 1))) * 2) (by kernel_rfl) hg27) (QJ.o { val := ag [iv o28.1, .bool o28.2] } (q_nAa Try.prog (H4_8 p1 p6 p2 p3 p4 p5 r5 r7) 50 7 (0 + (Int.toNat (w64 (r9.1 - 1))) * 2) r7.1 e50 2 50 (Int.toNat (w64 (r9.1 - 1))) (0, false) h29) (QJ.rn (qs (S4_1 r7 r9 o24 p2 p3 o28 p4 p5) (H4_8 p1 p6 p2 p3 p4 p5 r5 r7) [] []) 1 ?_))))))))
           exact QJ.o { val := .bool true } (q_conv (e := ((o28.1 == p4) && ((o28.2 == p5) && true))) (b := true) (by kernel_rfl) hc30) (QJ.rn (qs (S4_0 r7 r9 o24 p2 p3 o28 p4 p5 r5) (H4_8 p1 p6 p2 p3 p4 p5 r5 r7) [] []) 4 (QJ.o { val := accV 9 r31.length, new := [ab 55 e55 r31] } (qOf_call (g := 17) (args := [sv 7 r7.1.length ANY]) (by kernel_rfl) lookC_hit) (QJ.dn ⟨rfl, (SJ.o { val := iv r33, new := [] } (qOf_call (g := 31) (args := [ag [iv r5.1, accV 5 r5.2.length], accV 9 r31.length]) (by kernel_rfl) (lookC_skip (fun hg => absurd (show (17 : Nat) = 31 from hg) (by decide)) lookC_hit)) (SJ.o { val := .bool false } (q_conv (e := r33 == 0) (b := false) (by kernel_rfl) hc35) SJ.la))⟩)))
         exact hK
       replace hm39 := of_neg hm39 hc30
       have hm39 := sj hm39
       subst hm39
       refine TS.dp [] (fun e he => by cases he) mixed 18 [8] [0, 1] (st 86 [(8, .bool false)]) (H4_14 p1 p6) ?_ ?_
       · refine QJ.rn (qs (S4_11 r7 r9) (H4_8 p1 p6 p2 p3 p4 p5 r5 r7) [] []) 1 (QJ.o { val := .pointer (some ⟨7, 0 + (Int.toNat 0) * 2, none⟩) } (q_ixS 7 0 ((Int.toNat 0) * 2) (by kernel_rfl) hg23) (QJ.o { val := ag [iv o24.1, .bool o24.2] } (q_nAa Try.prog (H4_8 p1 p6 p2 p3 p4 p5 r5 r7) 50 7 (0 + (Int.toNat 0) * 2) r7.1 e50 2 50 (Int.toNat 0) (0, false) h25) (QJ.rn (qs (S4_7 r7 r9 o24 p2 p3) (H4_8 p1 p6 p2 p3 p4 p5 r5 r7) [] []) 1 (QJ.o { val := .bool true } (q_conv (e := ((o24.1 == p2) && ((o24.2 == p3) && true))) (b := true) (by kernel_rfl) hc26) (QJ.rn (qs (S4_2 r7 r9 o24 p2 p3) (H4_8 p1 p6 p2 p3 p4 p5 r5 r7) [] []) 4 (QJ.o { val := .pointer (some ⟨7, 0 + (Int.toNat (w64 (r9.1 - 1))) * 2, none⟩) } (q_ixS 7 0 ((Int.toNat (w64 (r9.1 - 1))) * 2) (by kernel_rfl) hg27) (QJ.o { val := ag [iv o28.1, .bool o28.2] } (q_nAa Try.prog (H4_8 p1 p6 p2 p3 p4 p5 r5 r7) 50 7 (0 + (Int.toNat (w64 (r9.1 - 1))) * 2) r7.1 e50 2 50 (Int.toNat (w64 (r9.1 - 1))) (0, false) h29) (QJ.rn (qs (S4_1 r7 r9 o24 p2 p3 o28 p4 p5) (H4_8 p1 p6 p2 p3 p4 p5 r5 r7) [] []) 1 ?_))))))))
         exact QJ.o { val := .bool false } (q_conv (e := ((o28.1 == p4) && ((o28.2 == p5) && true))) (b := false) (by kernel_rfl) hc30) (QJ.rn (qs (st 86 [(5, pt 3 0), (6, pt 4 0), (9, pt 6 0), (10, sv 7 r7.1.length ANY), (12, iv r9.1), (60, .bool (r9.2 != 0)), (62, sv 7 r7.1.length ANY), (63, .pointer (some ⟨7, 0 + (Int.toNat 0) * 2, none⟩)), (64, ag [iv o24.1, .bool o24.2]), (65, ag [iv p2, .bool p3]), (66, .bool true), (67, .bool true), (68, sv 7 r7.1.length ANY), (69, iv r9.1), (70, iv (w64 (r9.1 - 1))), (71, .pointer (some ⟨7, 0 + (Int.toNat (w64 (r9.1 - 1))) * 2, none⟩)), (72, ag [iv o28.1, .bool o28.2]), (73, ag [iv p4, .bool p5]), (74, .bool false), (75, .bool false), (76, .bool false), (77, undef), (78, undef), (79, undef)]) (H4_8 p1 p6 p2 p3 p4 p5 r5 r7) [] []) 5 (QJ.dn ⟨rfl, SJ.la⟩))
       exact TS.weak (Wk.pad 1) hK
     replace hm39 := of_neg hm39 hc26
     have hm39 := sj hm39
     subst hm39
     refine TS.dp [] (fun e he => by cases he) mixed 18 [8] [0, 1] (st 86 [(8, .bool false)]) (H4_14 p1 p6) ?_ ?_
     · exact QJ.rn (qs (S4_11 r7 r9) (H4_8 p1 p6 p2 p3 p4 p5 r5 r7) [] []) 1 (QJ.o { val := .pointer (some ⟨7, 0 + (Int.toNat 0) * 2, none⟩) } (q_ixS 7 0 ((Int.toNat 0) * 2) (by kernel_rfl) hg23) (QJ.o { val := ag [iv o24.1, .bool o24.2] } (q_nAa Try.prog (H4_8 p1 p6 p2 p3 p4 p5 r5 r7) 50 7 (0 + (Int.toNat 0) * 2) r7.1 e50 2 50 (Int.toNat 0) (0, false) h25) (QJ.rn (qs (S4_7 r7 r9 o24 p2 p3) (H4_8 p1 p6 p2 p3 p4 p5 r5 r7) [] []) 1 (QJ.o { val := .bool false } (q_conv (e := ((o24.1 == p2) && ((o24.2 == p3) && true))) (b := false) (by kernel_rfl) hc26) (QJ.rn (qs (st 86 [(5, pt 3 0), (6, pt 4 0), (9, pt 6 0), (10, sv 7 r7.1.length ANY), (12, iv r9.1), (60, .bool (r9.2 != 0)), (62, sv 7 r7.1.length ANY), (63, .pointer (some ⟨7, 0 + (Int.toNat 0) * 2, none⟩)), (64, ag [iv o24.1, .bool o24.2]), (65, ag [iv p2, .bool p3]), (66, .bool false), (67, .bool false), (68, undef), (69, undef), (70, undef), (71, undef), (72, undef), (73, undef), (74, undef), (75, .bool false), (76, .bool false), (77, undef), (78, undef), (79, undef)]) (H4_8 p1 p6 p2 p3 p4 p5 r5 r7) [] []) 13 (QJ.dn ⟨rfl, SJ.la⟩))))))
     exact TS.weak (Wk.pad 1) hK
   rcases Bool.eq_false_or_eq_true (r7.2 != r9.2) with hc11 | hc11
   · replace hm40 := of_pos hm40 hc11
     have hm40 := sj hm40
     subst hm40
     refine TS.dp [] (fun e he => by cases he) mixed 16 [5, 6, 9, 10, 12, 13, 58] [0, 1, 3, 4, 5, 6, 7] (S4_13 r7 r9) [ab 86 e86 p1, ab 50 e50 p6, .dead, cl 50 [iv p2, .bool p3], cl 50 [iv p4, .bool p5], ab 93 e93 r5.2, cl 30 [iv r5.1, accV 5 r5.2.length], ab 50 e50 r7.1] ?_ ?_
     · exact QJ.rn (qs (S4_9 p6 r7 r9) (H4_5 p1 p6 p0 p2 p3 p4 p5 r5 r7) [] []) 2 (QJ.o { val := .bool true } (q_conv (e := r7.2 != r9.2) (b := true) (by kernel_rfl) hc11) (QJ.rn (qs (st 86 [(3, sv 1 p6.length ANY), (4, pt 2 0), (5, pt 3 0), (6, pt 4 0), (9, pt 6 0), (10, sv 7 r7.1.length ANY), (11, iv r7.2), (12, iv r9.1), (13, iv r9.2), (40, iv r7.2), (41, iv r9.2), (42, .bool true), (43, .bool true), (44, undef), (45, undef), (46, undef), (47, undef), (48, .bool true), (49, .bool true), (50, undef), (51, undef), (52, undef), (53, undef), (54, undef), (55, undef)]) (H4_5 p1 p6 p0 p2 p3 p4 p5 r5 r7) [] []) 13 (QJ.dn ⟨rfl, SJ.la⟩)))
     exact TS.weak (Wk.pad 1) hK
   replace hm40 := of_neg hm40 hc11
   rcases Bool.eq_false_or_eq_true ((r7.1.length : Int) != r9.1) with hc12 | hc12
   · replace hm40 := of_pos hm40 hc12
     have hm40 := sj hm40
     subst hm40
     refine TS.dp [] (fun e he => by cases he) mixed 16 [5, 6, 9, 10, 12, 13, 58] [0, 1, 3, 4, 5, 6, 7] (S4_13 r7 r9) [ab 86 e86 p1, ab 50 e50 p6, .dead, cl 50 [iv p2, .bool p3], cl 50 [iv p4, .bool p5], ab 93 e93 r5.2, cl 30 [iv r5.1, accV 5 r5.2.length], ab 50 e50 r7.1] ?_ ?_
     · exact QJ.rn (qs (S4_9 p6 r7 r9) (H4_5 p1 p6 p0 p2 p3 p4 p5 r5 r7) [] []) 2 (QJ.o { val := .bool false } (q_conv (e := r7.2 != r9.2) (b := false) (by kernel_rfl) hc11) (QJ.rn (qs (S4_4 p6 r7 r9) (H4_5 p1 p6 p0 p2 p3 p4 p5 r5 r7) [] []) 4 (QJ.o { val := .bool true } (q_conv (e := (r7.1.length : Int) != r9.1) (b := true) (by kernel_rfl) hc12) (QJ.rn (qs (st 86 [(3, sv 1 p6.length ANY), (4, pt 2 0), (5, pt 3 0), (6, pt 4 0), (9, pt 6 0), (10, sv 7 r7.1.length ANY), (11, iv r7.2), (12, iv r9.1), (13, iv r9.2), (40, iv r7.2), (41, iv r9.2), (42, .bool false), (43, .bool false), (44, sv 7 r7.1.length ANY), (45, iv (r7.1.length : Int)), (46, iv r9.1), (47, .bool true), (48, .bool true), (49, .bool true), (50, undef), (51, undef), (52, undef), (53, undef), (54, undef), (55, undef)]) (H4_5 p1 p6 p0 p2 p3 p4 p5 r5 r7) [] []) 8 (QJ.dn ⟨rfl, SJ.la⟩)))))
     exact TS.weak (Wk.pad 1) hK
   replace hm40 := of_neg hm40 hc12
   have hX := of_do hm40
   clear hm40
   obtain ⟨r13, h14, hm40⟩ := hX
   have hX := of_do hm40
   clear hm40
   obtain ⟨r15, h16, hm40⟩ := hX
   have hX := of_do hm40
   clear hm40
   obtain ⟨r17, h18, hm40⟩ := hX
   have hm40 := sj hm40
   subst hm40
   have hT : ∀ e ∈ ([⟨30, [ag [iv p0, sv 0 p1.length ANY], sv 1 p6.length ANY], (H4_5 p1 p6 p0 p2 p3 p4 p5 r5 r7), iv r13, []⟩, ⟨17, [sv 1 p6.length ANY], (H4_5 p1 p6 p0 p2 p3 p4 p5 r5 r7), accV 8 r15.length, [ab 55 e55 r15]⟩, ⟨31, [ag [iv r5.1, accV 5 r5.2.length], accV 8 r15.length], (H4_3 p1 p6 p0 p2 p3 p4 p5 r5 r7 r15), iv r17, []⟩] : List Entry), PureSim Try.prog e.g e.args e.h e.v e.new := by
    intro e he
    simp only [List.mem_cons, List.not_mem_nil, or_false] at he
    rcases he with rfl | rfl | rfl
    · exact (PureSim.ren (hc := (H4_15 p1 p6)) (fun i => List.getD [(0, 0), (1, 0)] i (0, 0)) (C30 _ _ _ _ h14) (.ac (.ac (.nil _))) (.cons (Rn.agg' (.fl (.cons (Rn.any _ _ _ _ _ _ (nl rfl) rfl rfl (by decide)) .nil))) (.cons (Rn.any _ _ _ _ _ _ (nl rfl) rfl rfl (by decide)) .nil)) (.flat (by kernel_rfl)) newflat_nil)
    · exact (PureSim.ren (hc := [ab 50 e50 p6]) (fun i => List.getD [(1, 0)] i (0, 0)) (C17 _ _ h16) (.ac (.nil _)) (.cons (Rn.any _ _ _ _ _ _ (nl rfl) rfl rfl (by decide)) .nil) (Rn.acc (i' := 8) (nl rfl) rfl) (newflat_cons (accB_flat (fun _ => rfl)) newflat_nil))
    exact (PureSim.ren (hc := [ab 93 e93 r5.2, ab 55 e55 r15]) (fun i => List.getD [(5, 0), (8, 0)] i (0, 0)) (C31 _ _ _ _ h18) (.ac (.ac (.nil _))) (.cons (Rn.agg' (.fl (.cons (Rn.accA (i' := 5) (nl rfl) rfl) .nil))) (.cons (Rn.accA (i' := 8) (nl rfl) rfl) .nil)) (.flat (by kernel_rfl)) newflat_nil)
   refine TS.dp [⟨30, [ag [iv p0, sv 0 p1.length ANY], sv 1 p6.length ANY], (H4_5 p1 p6 p0 p2 p3 p4 p5 r5 r7), iv r13, []⟩, ⟨17, [sv 1 p6.length ANY], (H4_5 p1 p6 p0 p2 p3 p4 p5 r5 r7), accV 8 r15.length, [ab 55 e55 r15]⟩, ⟨31, [ag [iv r5.1, accV 5 r5.2.length], accV 8 r15.length], (H4_3 p1 p6 p0 p2 p3 p4 p5 r5 r7 r15), iv r17, []⟩] hT mixed 16 [5, 6, 9, 10, 12, 13, 58] [0, 1, 3, 4, 5, 6, 7] (st 86 [(5, pt 3 0), (6, pt 4 0), (9, pt 6 0), (10, sv 7 r7.1.length ANY), (12, iv r9.1), (13, iv r9.2), (58, .bool (r13 != r17))]) (H4_8 p1 p6 p2 p3 p4 p5 r5 r7) ?_ ?_
   · refine QJ.rn (qs (S4_9 p6 r7 r9) (H4_5 p1 p6 p0 p2 p3 p4 p5 r5 r7) [] []) 2 (QJ.o { val := .bool false } (q_conv (e := r7.2 != r9.2) (b := false) (by kernel_rfl) hc11) (QJ.rn (qs (S4_4 p6 r7 r9) (H4_5 p1 p6 p0 p2 p3 p4 p5 r5 r7) [] []) 4 (QJ.o { val := .bool false } (q_conv (e := (r7.1.length : Int) != r9.1) (b := false) (by kernel_rfl) hc12) (QJ.rn (qs (st 86 [(3, sv 1 p6.length ANY), (4, pt 2 0), (5, pt 3 0), (6, pt 4 0), (9, pt 6 0), (10, sv 7 r7.1.length ANY), (11, iv r7.2), (12, iv r9.1), (13, iv r9.2), (40, iv r7.2), (41, iv r9.2), (42, .bool false), (43, .bool false), (44, sv 7 r7.1.length ANY), (45, iv (r7.1.length : Int)), (46, iv r9.1), (47, .bool false), (48, .bool false), (49, .bool false), (50, ag [iv p0, sv 0 p1.length ANY]), (51, sv 1 p6.length ANY)]) (H4_5 p1 p6 p0 p2 p3 p4 p5 r5 r7) [] []) 4 (QJ.o { val := iv r13, new := [] } (qOf_call (g := 30) (args := [ag [iv p0, sv 0 p1.length ANY], sv 1 p6.length ANY]) (by kernel_rfl) lookC_hit) (QJ.rn (qs (st 86 [(3, sv 1 p6.length ANY), (4, pt 2 0), (5, pt 3 0), (6, pt 4 0), (9, pt 6 0), (10, sv 7 r7.1.length ANY), (11, iv r7.2), (12, iv r9.1), (13, iv r9.2), (40, iv r7.2), (41, iv r9.2), (42, .bool false), (43, .bool false), (44, sv 7 r7.1.length ANY), (45, iv (r7.1.length : Int)), (46, iv r9.1), (47, .bool false), (48, .bool false), (49, .bool false), (50, ag [iv p0, sv 0 p1.length ANY]), (51, sv 1 p6.length ANY), (52, iv r13), (53, ag [iv r5.1, accV 5 r5.2.length]), (54, sv 1 p6.length ANY)]) (H4_5 p1 p6 p0 p2 p3 p4 p5 r5 r7) [] []) 2 (QJ.o { val := accV 8 r15.length, new := [ab 55 e55 r15] } (qOf_call (g := 17) (args := [sv 1 p6.length ANY]) (by kernel_rfl) (lookC_skip (fun hg => absurd (show (30 : Nat) = 17 from hg) (by decide)) lookC_hit)) (QJ.dn ⟨rfl, ?_⟩))))))))
     exact SJ.o { val := iv r17, new := [] } (qOf_call (g := 31) (args := [ag [iv r5.1, accV 5 r5.2.length], accV 8 r15.length]) (by kernel_rfl) (lookC_skip (fun hg => absurd (show (30 : Nat) = 31 from hg) (by decide)) (lookC_skip (fun hg => absurd (show (17 : Nat) = 31 from hg) (by decide)) lookC_hit))) SJ.la
   exact hK
 rcases Bool.eq_false_or_eq_true (decide ((p1.length : Int) > 100)) with hc1 | hc1
 · replace hm41 := of_pos hm41 hc1
   have hm41 := sj hm41
   subst hm41
   exact TS.rg (TI.ra 3 [3, 4, 5, 6, 16] (st 86 [(3, sv 1 p6.length ANY), (4, pt 2 0), (5, pt 3 0), (6, pt 4 0), (16, iv (p1.length : Int))]) (TI.o { val := .bool true } (q_conv (e := decide ((p1.length : Int) > 100)) (b := true) (by kernel_rfl) hc1) [3, 4, 5, 6, 17] [0, 1, 2, 3, 4] (st 86 [(3, sv 1 p6.length ANY), (4, pt 2 0), (5, pt 3 0), (6, pt 4 0), (17, .bool true)]) (H4_10 p1 p6 p0 p2 p3 p4 p5) (TI.ra 5 [3, 4, 5, 6, 22] (st 86 [(3, sv 1 p6.length ANY), (4, pt 2 0), (5, pt 3 0), (6, pt 4 0), (22, .bool true)]) (TI.dn hK))))
 replace hm41 := of_neg hm41 hc1
 have hm41 := sj hm41
 subst hm41
 exact TS.rg (TI.ra 3 [3, 4, 5, 6, 16] (st 86 [(3, sv 1 p6.length ANY), (4, pt 2 0), (5, pt 3 0), (6, pt 4 0), (16, iv (p1.length : Int))]) (TI.o { val := .bool false } (q_conv (e := decide ((p1.length : Int) > 100)) (b := false) (by kernel_rfl) hc1) [3, 4, 5, 6, 17] [0, 1, 2, 3, 4] (st 86 [(3, sv 1 p6.length ANY), (4, pt 2 0), (5, pt 3 0), (6, pt 4 0), (17, .bool false)]) (H4_10 p1 p6 p0 p2 p3 p4 p5) (TI.ra 5 [3, 4, 5, 6, 22] (st 86 [(3, sv 1 p6.length ANY), (4, pt 2 0), (5, pt 3 0), (6, pt 4 0), (22, .bool (decide ((p6.length : Int) > 120)))]) (TI.dn hK))))
theorem C4 (p0 : Int) (p1 : List ((Int × Bool) × (Int × Bool))) (p2 : Int) (p3 : Bool) (p4 : Int) (p5 : Bool) (p6 : List (Int × Bool)) (r : Bool) (hF : F4 p0 p1 p2 p3 p4 p5 p6 = some r) : PureSim Try.prog 4 [ag [iv p0, sv 0 p1.length ANY], ag [iv p2, .bool p3], ag [iv p4, .bool p5], sv 1 p6.length ANY] (H4_15 p1 p6) (V4 2 r) (N4 2 r) :=
 PureSim.of_Fin Try.func4 (c := c4) (by kernel_rfl) (by kernel_rfl) 2 rfl [0, 1, 2, 3] [0, 1] (by kernel_rfl) (B4 p0 p1 p2 p3 p4 p5 p6 r hF)
end
end Go.Proofs.Ytiaippkjgmccoaa
