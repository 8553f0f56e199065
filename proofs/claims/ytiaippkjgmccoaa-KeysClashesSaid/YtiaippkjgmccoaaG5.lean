/- What functions of the program compute, and that they do. -/
import Derived.Test.YtiaippkjgmccoaaKP
import Derived.Test.YtiaippkjgmccoaaGiven
set_option linter.unusedVariables false
set_option linter.unusedSimpArgs false
set_option maxRecDepth 100000
set_option maxHeartbeats 4000000
namespace Go.Proofs.Ytiaippkjgmccoaa
open Go Go.Cl
noncomputable section
noncomputable def c5 : Code := Try.f5.code
def H5_0 (p1 : List ((Int × Bool) × (Int × Bool))) (p2 p3 : List (Int × Bool)) (p0 : Int) (r6 : Int × (List ((Int × Bool) × (Int × Bool)))) (r8 : (List (Int × Bool)) × (List (Int × Bool)) × Int) (r15 r17 : List (Int × Bool)) : List Blk := [ab 86 e86 p1, ab 50 e50 p2, ab 50 e50 p3, cl 24 [iv p0, sv 0 p1.length ANY], ab 93 e93 r6.2, cl 30 [iv r6.1, accV 4 r6.2.length], ab 50 e50 r8.1, ab 50 e50 r8.2.1, ab 55 e55 r15, ab 55 e55 r17]
def H5_1 (p1 : List ((Int × Bool) × (Int × Bool))) (p2 p3 : List (Int × Bool)) (r6 : Int × (List ((Int × Bool) × (Int × Bool)))) (r8 : (List (Int × Bool)) × (List (Int × Bool)) × Int) (r29 r31 : List (Int × Bool)) : List Blk := [ab 86 e86 p1, ab 50 e50 p2, ab 50 e50 p3, .dead, ab 93 e93 r6.2, cl 30 [iv r6.1, accV 4 r6.2.length], ab 50 e50 r8.1, ab 50 e50 r8.2.1, .dead, .dead, ab 55 e55 r29, ab 55 e55 r31]
def H5_2 (p1 : List ((Int × Bool) × (Int × Bool))) (p2 p3 : List (Int × Bool)) (p0 : Int) (r6 : Int × (List ((Int × Bool) × (Int × Bool)))) (r8 : (List (Int × Bool)) × (List (Int × Bool)) × Int) (r15 : List (Int × Bool)) : List Blk := [ab 86 e86 p1, ab 50 e50 p2, ab 50 e50 p3, cl 24 [iv p0, sv 0 p1.length ANY], ab 93 e93 r6.2, cl 30 [iv r6.1, accV 4 r6.2.length], ab 50 e50 r8.1, ab 50 e50 r8.2.1, ab 55 e55 r15]
def H5_3 (p1 : List ((Int × Bool) × (Int × Bool))) (p2 p3 : List (Int × Bool)) (r6 : Int × (List ((Int × Bool) × (Int × Bool)))) (r8 : (List (Int × Bool)) × (List (Int × Bool)) × Int) (r29 : List (Int × Bool)) : List Blk := [ab 86 e86 p1, ab 50 e50 p2, ab 50 e50 p3, .dead, ab 93 e93 r6.2, cl 30 [iv r6.1, accV 4 r6.2.length], ab 50 e50 r8.1, ab 50 e50 r8.2.1, .dead, .dead, ab 55 e55 r29]
def H5_4 (p1 : List ((Int × Bool) × (Int × Bool))) (p2 p3 : List (Int × Bool)) (p0 : Int) (r6 : Int × (List ((Int × Bool) × (Int × Bool)))) (r8 : (List (Int × Bool)) × (List (Int × Bool)) × Int) : List Blk := [ab 86 e86 p1, ab 50 e50 p2, ab 50 e50 p3, cl 24 [iv p0, sv 0 p1.length ANY], ab 93 e93 r6.2, cl 30 [iv r6.1, accV 4 r6.2.length], ab 50 e50 r8.1, ab 50 e50 r8.2.1]
def H5_5 (p1 : List ((Int × Bool) × (Int × Bool))) (p2 p3 : List (Int × Bool)) (r6 : Int × (List ((Int × Bool) × (Int × Bool)))) (r8 : (List (Int × Bool)) × (List (Int × Bool)) × Int) : List Blk := [ab 86 e86 p1, ab 50 e50 p2, ab 50 e50 p3, .dead, ab 93 e93 r6.2, cl 30 [iv r6.1, accV 4 r6.2.length], ab 50 e50 r8.1, ab 50 e50 r8.2.1, .dead, .dead]
def S5_6 (r8 : (List (Int × Bool)) × (List (Int × Bool)) × Int) (r10 : Int) (r6 : Int × (List ((Int × Bool) × (Int × Bool)))) (r29 : List (Int × Bool)) : CAct := (st 76 [(7, pt 5 0), (8, sv 6 r8.1.length ANY), (9, sv 7 r8.2.1.length ANY), (54, .bool (r10 != 0)), (66, ag [iv r6.1, accV 4 r6.2.length]), (67, sv 6 r8.1.length ANY), (68, accV 10 r29.length), (69, sv 7 r8.2.1.length ANY)])
def S5_7 (p2 p3 : List (Int × Bool)) (r8 : (List (Int × Bool)) × (List (Int × Bool)) × Int) (r10 : Int) : CAct := (st 76 [(1, sv 1 p2.length ANY), (2, sv 2 p3.length ANY), (3, pt 3 0), (7, pt 5 0), (8, sv 6 r8.1.length ANY), (9, sv 7 r8.2.1.length ANY), (10, iv r8.2.2), (11, iv r10), (37, iv r8.2.2), (38, iv r10)])
def S5_8 (r8 : (List (Int × Bool)) × (List (Int × Bool)) × Int) (r10 : Int) (r6 : Int × (List ((Int × Bool) × (Int × Bool)))) : CAct := (st 76 [(7, pt 5 0), (8, sv 6 r8.1.length ANY), (9, sv 7 r8.2.1.length ANY), (54, .bool (r10 != 0)), (66, ag [iv r6.1, accV 4 r6.2.length]), (67, sv 6 r8.1.length ANY)])
def H5_9 (p1 : List ((Int × Bool) × (Int × Bool))) (p2 p3 : List (Int × Bool)) (r8 : (List (Int × Bool)) × (List (Int × Bool)) × Int) : List Blk := [ab 86 e86 p1, ab 50 e50 p2, ab 50 e50 p3, .dead, .dead, .dead, .dead, ab 50 e50 r8.2.1, .dead, .dead]
def H5_10 (p1 : List ((Int × Bool) × (Int × Bool))) (p2 p3 : List (Int × Bool)) (p0 : Int) : List Blk := [ab 86 e86 p1, ab 50 e50 p2, ab 50 e50 p3, cl 24 [iv p0, sv 0 p1.length ANY]]
def H5_11 (p1 : List ((Int × Bool) × (Int × Bool))) (p2 p3 : List (Int × Bool)) : List Blk := [ab 86 e86 p1, ab 50 e50 p2, ab 50 e50 p3, .dead, .dead, .dead, .dead, .dead, .dead, .dead, .dead, .dead]
def H5_12 (p1 : List ((Int × Bool) × (Int × Bool))) (p2 p3 : List (Int × Bool)) : List Blk := [ab 86 e86 p1, ab 50 e50 p2, ab 50 e50 p3, .dead, .dead, .dead, .dead, .dead, .dead, .dead]
def S5_13 (p2 p3 : List (Int × Bool)) : CAct := (st 76 [(1, sv 1 p2.length ANY), (2, sv 2 p3.length ANY), (3, pt 3 0), (16, .bool false), (18, iv (p2.length : Int))])
def S5_14 (p2 p3 : List (Int × Bool)) (p1 : List ((Int × Bool) × (Int × Bool))) : CAct := (st 76 [(1, sv 1 p2.length ANY), (2, sv 2 p3.length ANY), (3, pt 3 0), (14, iv (p1.length : Int))])
def S5_15 (p2 p3 : List (Int × Bool)) : CAct := (st 76 [(1, sv 1 p2.length ANY), (2, sv 2 p3.length ANY), (3, pt 3 0), (15, .bool false)])
def S5_16 (p2 p3 : List (Int × Bool)) : CAct := (st 76 [(1, sv 1 p2.length ANY), (2, sv 2 p3.length ANY), (3, pt 3 0), (25, .bool true)])
def H5_17 (p1 : List ((Int × Bool) × (Int × Bool))) (p2 p3 : List (Int × Bool)) : List Blk := [ab 86 e86 p1, ab 50 e50 p2, ab 50 e50 p3]
def S5_18 (r8 : (List (Int × Bool)) × (List (Int × Bool)) × Int) : CAct := (st 76 [(9, sv 7 r8.2.1.length ANY), (56, iv (r8.1.length : Int))])
def F5 (p0 : Int) (p1 : List ((Int × Bool) × (Int × Bool))) (p2 p3 : List (Int × Bool)) : Option Bool :=
 (
  if decide ((p1.length : Int) > 100) then
   some (true)
  else
   if decide ((p2.length : Int) > 120) then
    some (true)
   else
    some (decide ((p3.length : Int) > 120))
 : Option Bool) >>= fun m3 =>
 if m3 then
  F15 >>= fun r4 =>
  some r4
 else
  F16 p0 p1 >>= fun r6 =>
  F32 p0 p1 >>= fun r8 =>
  F33 r6.1 r6.2 >>= fun r10 =>
  (
   if r8.2.2 != r10 then
    some (true)
   else
    F34 p0 p1 p2 p3 >>= fun r13 =>
    F17 p2 >>= fun r15 =>
    F17 p3 >>= fun r17 =>
    F35 r6.1 r6.2 r15 r17 >>= fun r19 =>
    some (r13 != r19)
  : Option Bool) >>= fun m21 =>
  if m21 then
   some false
  else
   if r10 != 0 then
    (
     if (r8.1.length : Int) == 0 then
      if (r8.2.1.length : Int) == 0 then
       F15 >>= fun r25 =>
       some (r25)
      else
       some (false)
     else
      some (false)
    : Option Bool) >>= fun m27 =>
    some m27
   else
    F17 r8.1 >>= fun r29 =>
    F17 r8.2.1 >>= fun r31 =>
    F35 r6.1 r6.2 r29 r31 >>= fun r33 =>
    (
     if r33 == 0 then
      F15 >>= fun r36 =>
      some (r36)
     else
      some (false)
    : Option Bool) >>= fun m38 =>
    some m38
def V5 (b : Nat) (r : Bool) : Value := .bool r
def N5 (b : Nat) (r : Bool) : List Blk := []
theorem B5 (p0 : Int) (p1 : List ((Int × Bool) × (Int × Bool))) (p2 p3 : List (Int × Bool)) (r : Bool) (hF : F5 p0 p1 p2 p3 = some r) : TS Try.prog 3 3 c5 (st 76 [(0, ag [iv p0, sv 0 p1.length ANY]), (1, sv 1 p2.length ANY), (2, sv 2 p3.length ANY)]) (H5_17 p1 p2 p3) (NX Try.prog 3 3 [] (FinP Try.prog Try.f5 3 (V5 3 r) (N5 3 r))) := by
 unfold F5 at hF
 refine TS.sq (TS.rg (TI.rn 2 [1, 2, 3] [0, 1, 2, 3] (st 76 [(1, sv 1 p2.length ANY), (2, sv 2 p3.length ANY), (3, pt 3 0)]) (H5_10 p1 p2 p3 p0) (TI.dn (NX.sq (TS.sq (TS.sq ?_))))))
 obtain ⟨m3, hm41, hF⟩ := of_do hF
 have hK : NX Try.prog 3 3 [.sq c5.s2.s1.s2, .sq c5.s2.s2] (FinP Try.prog Try.f5 3 (V5 3 r) (N5 3 r)) .normal (st 76 [(1, sv 1 p2.length ANY), (2, sv 2 p3.length ANY), (3, pt 3 0), (25, .bool m3)]) (H5_10 p1 p2 p3 p0) := by
  refine NX.sq ?_
  cases m3 with
  | true =>
   replace hF := of_pos hF rfl
   refine TS.cdT (.tmp 25) (TS.sq ?_)
   obtain ⟨r4, h5, hF⟩ := of_do hF
   refine TS.rg (TI.cf (C15 _ h5) (TI.rn 1 [6] [0, 1, 2] (st 76 [(6, .bool r4)]) [ab 86 e86 p1, ab 50 e50 p2, ab 50 e50 p3, .dead] (TI.dn (NX.sq (TS.rt (NX.sqR ?_))))))
   have hF := sj hF
   subst hF
   exact ⟨.inr rfl, rfl, .bool r4, by kernel_rfl, WkV.flat0 (by kernel_rfl) (nl rfl)⟩
  | false =>
   replace hF := of_neg hF rfl
   refine TS.cdF (.tmp 25) (TS.sk (NX.sq (TS.sq ?_)))
   obtain ⟨r6, h7, hF⟩ := of_do hF
   refine TS.rg (TI.ra 1 [1, 2, 3, 27] (st 76 [(1, sv 1 p2.length ANY), (2, sv 2 p3.length ANY), (3, pt 3 0), (27, ag [iv p0, sv 0 p1.length ANY])]) (TI.cp 16 [ag [iv p0, sv 0 p1.length ANY]] (ag [iv r6.1, accV 4 r6.2.length]) [ab 93 e93 r6.2] (PureSim.ren (hc := [ab 86 e86 p1]) (fun i => List.getD [(0, 0)] i (0, 0)) (C16 _ _ _ h7) (.ac (.nil _)) (.cons (Rn.agg' (.fl (.cons (Rn.any _ _ _ _ _ _ (nl rfl) rfl rfl (by decide)) .nil))) .nil) (Rn.agg' (.fl (.cons (Rn.acc (i' := 4) (nl rfl) rfl) .nil))) (newflat_cons (accB_flat (fun _ => rfl)) newflat_nil)) (TI.rn 2 [1, 2, 3, 7] [0, 1, 2, 3, 4, 5] (st 76 [(1, sv 1 p2.length ANY), (2, sv 2 p3.length ANY), (3, pt 3 0), (7, pt 5 0)]) [ab 86 e86 p1, ab 50 e50 p2, ab 50 e50 p3, cl 24 [iv p0, sv 0 p1.length ANY], ab 93 e93 r6.2, cl 30 [iv r6.1, accV 4 r6.2.length]] (TI.dn (NX.sq (TS.sq ?_))))))
   obtain ⟨r8, h9, hF⟩ := of_do hF
   refine TS.rg (TI.ra 1 [1, 2, 3, 7, 30] (st 76 [(1, sv 1 p2.length ANY), (2, sv 2 p3.length ANY), (3, pt 3 0), (7, pt 5 0), (30, ag [iv p0, sv 0 p1.length ANY])]) (TI.cp 32 [ag [iv p0, sv 0 p1.length ANY]] (.tuple ⟨[sv 6 r8.1.length ANY, sv 7 r8.2.1.length ANY, iv r8.2.2]⟩) [ab 50 e50 r8.1, ab 50 e50 r8.2.1] (PureSim.ren (hc := [ab 86 e86 p1]) (fun i => List.getD [(0, 0)] i (0, 0)) (C32 _ _ _ h9) (.ac (.nil _)) (.cons (Rn.agg' (.fl (.cons (Rn.any _ _ _ _ _ _ (nl rfl) rfl rfl (by decide)) .nil))) .nil) (Rn.tuple' (.cons (Rn.anyS (i' := 6) (nl rfl) rfl rfl) (.cons (Rn.anyS (i' := 7) (nl rfl) rfl rfl) (.fl .nil)))) (newflat_cons (accB_flat (fun _ => rfl)) (newflat_cons (accB_flat (fun _ => rfl)) newflat_nil))) (TI.rn 7 [1, 2, 3, 7, 8, 9, 10] [0, 1, 2, 3, 4, 5, 6, 7] (st 76 [(1, sv 1 p2.length ANY), (2, sv 2 p3.length ANY), (3, pt 3 0), (7, pt 5 0), (8, sv 6 r8.1.length ANY), (9, sv 7 r8.2.1.length ANY), (10, iv r8.2.2)]) (H5_4 p1 p2 p3 p0 r6 r8) (TI.dn (NX.sq (TS.sq ?_))))))
   obtain ⟨r10, h11, hF⟩ := of_do hF
   refine TS.rg (TI.ra 1 [1, 2, 3, 7, 8, 9, 10, 35] (st 76 [(1, sv 1 p2.length ANY), (2, sv 2 p3.length ANY), (3, pt 3 0), (7, pt 5 0), (8, sv 6 r8.1.length ANY), (9, sv 7 r8.2.1.length ANY), (10, iv r8.2.2), (35, ag [iv r6.1, accV 4 r6.2.length])]) (TI.cp 33 [ag [iv r6.1, accV 4 r6.2.length]] (iv r10) [] (PureSim.ren (hc := [ab 93 e93 r6.2]) (fun i => List.getD [(4, 0)] i (0, 0)) (C33 _ _ _ h11) (.ac (.nil _)) (.cons (Rn.agg' (.fl (.cons (Rn.accA (i' := 4) (nl rfl) rfl) .nil))) .nil) (.flat (by kernel_rfl)) newflat_nil) (TI.ra 1 [1, 2, 3, 7, 8, 9, 10, 11] (st 76 [(1, sv 1 p2.length ANY), (2, sv 2 p3.length ANY), (3, pt 3 0), (7, pt 5 0), (8, sv 6 r8.1.length ANY), (9, sv 7 r8.2.1.length ANY), (10, iv r8.2.2), (11, iv r10)]) (TI.dn (NX.sq (TS.sq (TS.sq ?_)))))))
   obtain ⟨m21, hm40, hF⟩ := of_do hF
   have hK : NX Try.prog 3 3 [.sq c5.s2.s2.s2.s2.s2.s1.s2, .sq c5.s2.s2.s2.s2.s2.s2] (FinP Try.prog Try.f5 3 (V5 3 r) (N5 3 r)) .normal (st 76 [(7, pt 5 0), (8, sv 6 r8.1.length ANY), (9, sv 7 r8.2.1.length ANY), (11, iv r10), (52, .bool m21)]) (H5_5 p1 p2 p3 r6 r8) := by
    refine NX.sq ?_
    cases m21 with
    | true =>
     replace hF := of_pos hF rfl
     refine TS.cdT (.tmp 52) (TS.sq (TS.rg (TI.rn 1 [6] [0, 1, 2] (st 76 [(6, .bool false)]) (H5_12 p1 p2 p3) (TI.dn (NX.sq (TS.rt (NX.sqR ?_)))))))
     have hF := sj hF
     subst hF
     exact ⟨.inr rfl, rfl, .bool false, by kernel_rfl, WkV.flat0 (by kernel_rfl) (nl rfl)⟩
    | false =>
     replace hF := of_neg hF rfl
     refine TS.cdF (.tmp 52) (TS.sk (NX.sq (TS.sq (TS.sq (TS.rg (TI.ra 2 [7, 8, 9, 54] (st 76 [(7, pt 5 0), (8, sv 6 r8.1.length ANY), (9, sv 7 r8.2.1.length ANY), (54, .bool (r10 != 0))]) (TI.dn (NX.sq ?_))))))))
     refine TS.cd (.tmp 54) (r10 != 0) (fun hc22 => ?_) (fun hc22 => ?_)
     · replace hF := of_pos hF hc22
       refine TS.sq ?_
       obtain ⟨m27, hm28, hF⟩ := of_do hF
       have hK : NX Try.prog 3 3 [.sq c5.s2.s2.s2.s2.s2.s2.s1.s2.th.s2, .sq c5.s2.s2.s2.s2.s2.s2.s2] (FinP Try.prog Try.f5 3 (V5 3 r) (N5 3 r)) .normal (st 76 [(6, .bool m27)]) (H5_12 p1 p2 p3) := by
        refine NX.sq (TS.rt (NX.sqR ?_))
        have hF := sj hF
        subst hF
        exact ⟨.inr rfl, rfl, .bool m27, by kernel_rfl, WkV.flat0 (by kernel_rfl) (nl rfl)⟩
       rcases Bool.eq_false_or_eq_true ((r8.1.length : Int) == 0) with hc23 | hc23
       · replace hm28 := of_pos hm28 hc23
         rcases Bool.eq_false_or_eq_true ((r8.2.1.length : Int) == 0) with hc24 | hc24
         · replace hm28 := of_pos hm28 hc24
           have hX := of_do hm28
           clear hm28
           obtain ⟨r25, h26, hm28⟩ := hX
           have hm28 := sj hm28
           subst hm28
           refine TS.rg (TI.rn 2 [9, 56] [0, 1, 2, 7] (S5_18 r8) (H5_9 p1 p2 p3 r8) (TI.o { val := .bool true } (q_conv (e := (r8.1.length : Int) == 0) (b := true) (by kernel_rfl) hc23) [9, 57] [0, 1, 2, 7] (st 76 [(9, sv 7 r8.2.1.length ANY), (57, .bool true)]) (H5_9 p1 p2 p3 r8) (TI.rn 3 [58, 60] [0, 1, 2] (st 76 [(58, .bool true), (60, iv (r8.2.1.length : Int))]) (H5_12 p1 p2 p3) (TI.o { val := .bool true } (q_conv (e := (r8.2.1.length : Int) == 0) (b := true) (by kernel_rfl) hc24) [58, 61] [0, 1, 2] (st 76 [(58, .bool true), (61, .bool true)]) (H5_12 p1 p2 p3) (TI.ra 2 [63] (st 76 [(63, .bool true)]) (TI.cf (C15 _ h26) (TI.ra 2 [6] (st 76 [(6, .bool r25)]) (TI.dn ?_))))))))
           exact hK
         replace hm28 := of_neg hm28 hc24
         have hm28 := sj hm28
         subst hm28
         exact TS.rg (TI.rn 2 [9, 56] [0, 1, 2, 7] (S5_18 r8) (H5_9 p1 p2 p3 r8) (TI.o { val := .bool true } (q_conv (e := (r8.1.length : Int) == 0) (b := true) (by kernel_rfl) hc23) [9, 57] [0, 1, 2, 7] (st 76 [(9, sv 7 r8.2.1.length ANY), (57, .bool true)]) (H5_9 p1 p2 p3 r8) (TI.rn 3 [58, 60] [0, 1, 2] (st 76 [(58, .bool true), (60, iv (r8.2.1.length : Int))]) (H5_12 p1 p2 p3) (TI.o { val := .bool false } (q_conv (e := (r8.2.1.length : Int) == 0) (b := false) (by kernel_rfl) hc24) [58, 61] [0, 1, 2] (st 76 [(58, .bool true), (61, .bool false)]) (H5_12 p1 p2 p3) (TI.ra 5 [6] (st 76 [(6, .bool false)]) (TI.dn hK))))))
       replace hm28 := of_neg hm28 hc23
       have hm28 := sj hm28
       subst hm28
       exact TS.rg (TI.rn 2 [9, 56] [0, 1, 2, 7] (S5_18 r8) (H5_9 p1 p2 p3 r8) (TI.o { val := .bool false } (q_conv (e := (r8.1.length : Int) == 0) (b := false) (by kernel_rfl) hc23) [9, 57] [0, 1, 2, 7] (st 76 [(9, sv 7 r8.2.1.length ANY), (57, .bool false)]) (H5_9 p1 p2 p3 r8) (TI.rn 9 [6] [0, 1, 2] (st 76 [(6, .bool false)]) (H5_12 p1 p2 p3) (TI.dn hK))))
     replace hF := of_neg hF hc22
     refine TS.sk (NX.sq (TS.sq ?_))
     obtain ⟨r29, h30, hF⟩ := of_do hF
     obtain ⟨r31, h32, hF⟩ := of_do hF
     obtain ⟨r33, h34, hF⟩ := of_do hF
     obtain ⟨m38, hm39, hF⟩ := of_do hF
     have hK : NX Try.prog 3 3 [.sq c5.s2.s2.s2.s2.s2.s2.s2.s2] (FinP Try.prog Try.f5 3 (V5 3 r) (N5 3 r)) .normal (st 76 [(6, .bool m38)]) (H5_11 p1 p2 p3) := by
      refine NX.sq (TS.rt ?_)
      have hF := sj hF
      subst hF
      exact ⟨.inr rfl, rfl, .bool m38, by kernel_rfl, WkV.flat0 (by kernel_rfl) (nl rfl)⟩
     rcases Bool.eq_false_or_eq_true (r33 == 0) with hc35 | hc35
     · replace hm39 := of_pos hm39 hc35
       have hX := of_do hm39
       clear hm39
       obtain ⟨r36, h37, hm39⟩ := hX
       have hm39 := sj hm39
       subst hm39
       have hT : ∀ e ∈ ([⟨17, [sv 6 r8.1.length ANY], (H5_5 p1 p2 p3 r6 r8), accV 10 r29.length, [ab 55 e55 r29]⟩, ⟨17, [sv 7 r8.2.1.length ANY], (H5_3 p1 p2 p3 r6 r8 r29), accV 11 r31.length, [ab 55 e55 r31]⟩, ⟨35, [ag [iv r6.1, accV 4 r6.2.length], accV 10 r29.length, accV 11 r31.length], (H5_1 p1 p2 p3 r6 r8 r29 r31), iv r33, []⟩, ⟨15, [], (H5_1 p1 p2 p3 r6 r8 r29 r31), .bool r36, []⟩] : List Entry), PureSim Try.prog e.g e.args e.h e.v e.new := by
        intro e he
        simp only [List.mem_cons, List.not_mem_nil, or_false] at he
        rcases he with rfl | rfl | rfl | rfl
        · exact (PureSim.ren (hc := [ab 50 e50 r8.1]) (fun i => List.getD [(6, 0)] i (0, 0)) (C17 _ _ h30) (.ac (.nil _)) (.cons (Rn.any _ _ _ _ _ _ (nl rfl) rfl rfl (by decide)) .nil) (Rn.acc (i' := 10) (nl rfl) rfl) (newflat_cons (accB_flat (fun _ => rfl)) newflat_nil))
        · exact (PureSim.ren (hc := [ab 50 e50 r8.2.1]) (fun i => List.getD [(7, 0)] i (0, 0)) (C17 _ _ h32) (.ac (.nil _)) (.cons (Rn.any _ _ _ _ _ _ (nl rfl) rfl rfl (by decide)) .nil) (Rn.acc (i' := 11) (nl rfl) rfl) (newflat_cons (accB_flat (fun _ => rfl)) newflat_nil))
        · exact (PureSim.ren (hc := [ab 93 e93 r6.2, ab 55 e55 r29, ab 55 e55 r31]) (fun i => List.getD [(4, 0), (10, 0), (11, 0)] i (0, 0)) (C35 _ _ _ _ _ h34) (.ac (.ac (.ac (.nil _)))) (.cons (Rn.agg' (.fl (.cons (Rn.accA (i' := 4) (nl rfl) rfl) .nil))) (.cons (Rn.accA (i' := 10) (nl rfl) rfl) (.cons (Rn.accA (i' := 11) (nl rfl) rfl) .nil))) (.flat (by kernel_rfl)) newflat_nil)
        exact PureSim.ak (C15 _ h37)
       refine TS.dp [⟨17, [sv 6 r8.1.length ANY], (H5_5 p1 p2 p3 r6 r8), accV 10 r29.length, [ab 55 e55 r29]⟩, ⟨17, [sv 7 r8.2.1.length ANY], (H5_3 p1 p2 p3 r6 r8 r29), accV 11 r31.length, [ab 55 e55 r31]⟩, ⟨35, [ag [iv r6.1, accV 4 r6.2.length], accV 10 r29.length, accV 11 r31.length], (H5_1 p1 p2 p3 r6 r8 r29 r31), iv r33, []⟩, ⟨15, [], (H5_1 p1 p2 p3 r6 r8 r29 r31), .bool r36, []⟩] hT mixed 5 [6] [0, 1, 2] (st 76 [(6, .bool r36)]) (H5_11 p1 p2 p3) ?_ ?_
       · refine QJ.rn (qs (S5_8 r8 r10 r6) (H5_5 p1 p2 p3 r6 r8) [] []) 2 (QJ.o { val := accV 10 r29.length, new := [ab 55 e55 r29] } (qOf_call (g := 17) (args := [sv 6 r8.1.length ANY]) (by kernel_rfl) lookC_hit) (QJ.rn (qs (S5_6 r8 r10 r6 r29) (H5_3 p1 p2 p3 r6 r8 r29) [(2, 10, 11)] []) 1 ?_))
         exact QJ.o { val := accV 11 r31.length, new := [ab 55 e55 r31] } (qOf_call (g := 17) (args := [sv 7 r8.2.1.length ANY]) (by kernel_rfl) (lookC_skip (by intro _ ha hh; first | (exact absurd (congrArg List.length hh) (Nat.ne_of_beq_eq_false rfl)) | (have hq := h30; have hi := h32; clear hF; first | (exfalso; simp at ha; done) | ((try simp at ha); have hr := sj (hq.symm.trans (Eq.trans (by first | rfl | (congr 1 <;> first | rfl | omega | simp_all)) hi)); subst hr; rfl))) lookC_hit)) (QJ.dn ⟨rfl, (SJ.o { val := iv r33, new := [] } (qOf_call (g := 35) (args := [ag [iv r6.1, accV 4 r6.2.length], accV 10 r29.length, accV 11 r31.length]) (by kernel_rfl) (lookC_skip (fun hg => absurd (show (17 : Nat) = 35 from hg) (by decide)) (lookC_skip (fun hg => absurd (show (17 : Nat) = 35 from hg) (by decide)) lookC_hit))) (SJ.o { val := .bool true } (q_conv (e := r33 == 0) (b := true) (by kernel_rfl) hc35) (SJ.rn (st 76 [(7, pt 5 0), (8, sv 6 r8.1.length ANY), (9, sv 7 r8.2.1.length ANY), (54, .bool (r10 != 0)), (66, ag [iv r6.1, accV 4 r6.2.length]), (67, sv 6 r8.1.length ANY), (68, accV 10 r29.length), (69, sv 7 r8.2.1.length ANY), (70, accV 11 r31.length), (71, iv r33), (72, .bool true), (73, .bool true)]) (H5_1 p1 p2 p3 r6 r8 r29 r31) 1 (SJ.o { val := .bool r36, new := [] } (qOf_call (g := 15) (args := []) (by kernel_rfl) (lookC_skip (fun hg => absurd (show (17 : Nat) = 15 from hg) (by decide)) (lookC_skip (fun hg => absurd (show (17 : Nat) = 15 from hg) (by decide)) (lookC_skip (fun hg => absurd (show (35 : Nat) = 15 from hg) (by decide)) lookC_hit)))) SJ.la))))⟩)
       exact hK
     replace hm39 := of_neg hm39 hc35
     have hm39 := sj hm39
     subst hm39
     have hT : ∀ e ∈ ([⟨17, [sv 6 r8.1.length ANY], (H5_5 p1 p2 p3 r6 r8), accV 10 r29.length, [ab 55 e55 r29]⟩, ⟨17, [sv 7 r8.2.1.length ANY], (H5_3 p1 p2 p3 r6 r8 r29), accV 11 r31.length, [ab 55 e55 r31]⟩, ⟨35, [ag [iv r6.1, accV 4 r6.2.length], accV 10 r29.length, accV 11 r31.length], (H5_1 p1 p2 p3 r6 r8 r29 r31), iv r33, []⟩] : List Entry), PureSim Try.prog e.g e.args e.h e.v e.new := by
      intro e he
      simp only [List.mem_cons, List.not_mem_nil, or_false] at he
      rcases he with rfl | rfl | rfl
      · exact (PureSim.ren (hc := [ab 50 e50 r8.1]) (fun i => List.getD [(6, 0)] i (0, 0)) (C17 _ _ h30) (.ac (.nil _)) (.cons (Rn.any _ _ _ _ _ _ (nl rfl) rfl rfl (by decide)) .nil) (Rn.acc (i' := 10) (nl rfl) rfl) (newflat_cons (accB_flat (fun _ => rfl)) newflat_nil))
      · exact (PureSim.ren (hc := [ab 50 e50 r8.2.1]) (fun i => List.getD [(7, 0)] i (0, 0)) (C17 _ _ h32) (.ac (.nil _)) (.cons (Rn.any _ _ _ _ _ _ (nl rfl) rfl rfl (by decide)) .nil) (Rn.acc (i' := 11) (nl rfl) rfl) (newflat_cons (accB_flat (fun _ => rfl)) newflat_nil))
      exact (PureSim.ren (hc := [ab 93 e93 r6.2, ab 55 e55 r29, ab 55 e55 r31]) (fun i => List.getD [(4, 0), (10, 0), (11, 0)] i (0, 0)) (C35 _ _ _ _ _ h34) (.ac (.ac (.ac (.nil _)))) (.cons (Rn.agg' (.fl (.cons (Rn.accA (i' := 4) (nl rfl) rfl) .nil))) (.cons (Rn.accA (i' := 10) (nl rfl) rfl) (.cons (Rn.accA (i' := 11) (nl rfl) rfl) .nil))) (.flat (by kernel_rfl)) newflat_nil)
     refine TS.dp [⟨17, [sv 6 r8.1.length ANY], (H5_5 p1 p2 p3 r6 r8), accV 10 r29.length, [ab 55 e55 r29]⟩, ⟨17, [sv 7 r8.2.1.length ANY], (H5_3 p1 p2 p3 r6 r8 r29), accV 11 r31.length, [ab 55 e55 r31]⟩, ⟨35, [ag [iv r6.1, accV 4 r6.2.length], accV 10 r29.length, accV 11 r31.length], (H5_1 p1 p2 p3 r6 r8 r29 r31), iv r33, []⟩] hT mixed 5 [6] [0, 1, 2] (st 76 [(6, .bool false)]) (H5_11 p1 p2 p3) ?_ ?_
     · refine QJ.rn (qs (S5_8 r8 r10 r6) (H5_5 p1 p2 p3 r6 r8) [] []) 2 (QJ.o { val := accV 10 r29.length, new := [ab 55 e55 r29] } (qOf_call (g := 17) (args := [sv 6 r8.1.length ANY]) (by kernel_rfl) lookC_hit) (QJ.rn (qs (S5_6 r8 r10 r6 r29) (H5_3 p1 p2 p3 r6 r8 r29) [(2, 10, 11)] []) 1 ?_))
       exact QJ.o { val := accV 11 r31.length, new := [ab 55 e55 r31] } (qOf_call (g := 17) (args := [sv 7 r8.2.1.length ANY]) (by kernel_rfl) (lookC_skip (by intro _ ha hh; first | (exact absurd (congrArg List.length hh) (Nat.ne_of_beq_eq_false rfl)) | (have hq := h30; have hi := h32; clear hF; first | (exfalso; simp at ha; done) | ((try simp at ha); have hr := sj (hq.symm.trans (Eq.trans (by first | rfl | (congr 1 <;> first | rfl | omega | simp_all)) hi)); subst hr; rfl))) lookC_hit)) (QJ.dn ⟨rfl, (SJ.o { val := iv r33, new := [] } (qOf_call (g := 35) (args := [ag [iv r6.1, accV 4 r6.2.length], accV 10 r29.length, accV 11 r31.length]) (by kernel_rfl) (lookC_skip (fun hg => absurd (show (17 : Nat) = 35 from hg) (by decide)) (lookC_skip (fun hg => absurd (show (17 : Nat) = 35 from hg) (by decide)) lookC_hit))) (SJ.o { val := .bool false } (q_conv (e := r33 == 0) (b := false) (by kernel_rfl) hc35) SJ.la))⟩)
     exact hK
   rcases Bool.eq_false_or_eq_true (r8.2.2 != r10) with hc12 | hc12
   · replace hm40 := of_pos hm40 hc12
     have hm40 := sj hm40
     subst hm40
     refine TS.dp [] (fun e he => by cases he) mixed 13 [7, 8, 9, 11, 52] [0, 1, 2, 4, 5, 6, 7] (st 76 [(7, pt 5 0), (8, sv 6 r8.1.length ANY), (9, sv 7 r8.2.1.length ANY), (11, iv r10), (52, .bool true)]) [ab 86 e86 p1, ab 50 e50 p2, ab 50 e50 p3, .dead, ab 93 e93 r6.2, cl 30 [iv r6.1, accV 4 r6.2.length], ab 50 e50 r8.1, ab 50 e50 r8.2.1] ?_ ?_
     · exact QJ.rn (qs (S5_7 p2 p3 r8 r10) (H5_4 p1 p2 p3 p0 r6 r8) [] []) 2 (QJ.o { val := .bool true } (q_conv (e := r8.2.2 != r10) (b := true) (by kernel_rfl) hc12) (QJ.rn (qs (st 76 [(1, sv 1 p2.length ANY), (2, sv 2 p3.length ANY), (3, pt 3 0), (7, pt 5 0), (8, sv 6 r8.1.length ANY), (9, sv 7 r8.2.1.length ANY), (10, iv r8.2.2), (11, iv r10), (37, iv r8.2.2), (38, iv r10), (39, .bool true), (40, .bool true), (41, undef), (42, undef), (43, undef), (44, undef), (45, undef), (46, undef), (47, undef), (48, undef), (49, undef)]) (H5_4 p1 p2 p3 p0 r6 r8) [] []) 10 (QJ.dn ⟨rfl, SJ.la⟩)))
     exact TS.weak (Wk.pad 2) hK
   replace hm40 := of_neg hm40 hc12
   have hX := of_do hm40
   clear hm40
   obtain ⟨r13, h14, hm40⟩ := hX
   have hX := of_do hm40
   clear hm40
   obtain ⟨r15, h16, hm40⟩ := hX
   have hX := of_do hm40
   clear hm40
   obtain ⟨r17, h18, hm40⟩ := hX
   have hX := of_do hm40
   clear hm40
   obtain ⟨r19, h20, hm40⟩ := hX
   have hm40 := sj hm40
   subst hm40
   have hT : ∀ e ∈ ([⟨34, [ag [iv p0, sv 0 p1.length ANY], sv 1 p2.length ANY, sv 2 p3.length ANY], (H5_4 p1 p2 p3 p0 r6 r8), iv r13, []⟩, ⟨17, [sv 1 p2.length ANY], (H5_4 p1 p2 p3 p0 r6 r8), accV 8 r15.length, [ab 55 e55 r15]⟩, ⟨17, [sv 2 p3.length ANY], (H5_2 p1 p2 p3 p0 r6 r8 r15), accV 9 r17.length, [ab 55 e55 r17]⟩, ⟨35, [ag [iv r6.1, accV 4 r6.2.length], accV 8 r15.length, accV 9 r17.length], (H5_0 p1 p2 p3 p0 r6 r8 r15 r17), iv r19, []⟩] : List Entry), PureSim Try.prog e.g e.args e.h e.v e.new := by
    intro e he
    simp only [List.mem_cons, List.not_mem_nil, or_false] at he
    rcases he with rfl | rfl | rfl | rfl
    · exact (PureSim.ren (hc := (H5_17 p1 p2 p3)) (fun i => List.getD [(0, 0), (1, 0), (2, 0)] i (0, 0)) (C34 _ _ _ _ _ h14) (.ac (.ac (.ac (.nil _)))) (.cons (Rn.agg' (.fl (.cons (Rn.any _ _ _ _ _ _ (nl rfl) rfl rfl (by decide)) .nil))) (.cons (Rn.any _ _ _ _ _ _ (nl rfl) rfl rfl (by decide)) (.cons (Rn.any _ _ _ _ _ _ (nl rfl) rfl rfl (by decide)) .nil))) (.flat (by kernel_rfl)) newflat_nil)
    · exact (PureSim.ren (hc := [ab 50 e50 p2]) (fun i => List.getD [(1, 0)] i (0, 0)) (C17 _ _ h16) (.ac (.nil _)) (.cons (Rn.any _ _ _ _ _ _ (nl rfl) rfl rfl (by decide)) .nil) (Rn.acc (i' := 8) (nl rfl) rfl) (newflat_cons (accB_flat (fun _ => rfl)) newflat_nil))
    · exact (PureSim.ren (hc := [ab 50 e50 p3]) (fun i => List.getD [(2, 0)] i (0, 0)) (C17 _ _ h18) (.ac (.nil _)) (.cons (Rn.any _ _ _ _ _ _ (nl rfl) rfl rfl (by decide)) .nil) (Rn.acc (i' := 9) (nl rfl) rfl) (newflat_cons (accB_flat (fun _ => rfl)) newflat_nil))
    exact (PureSim.ren (hc := [ab 93 e93 r6.2, ab 55 e55 r15, ab 55 e55 r17]) (fun i => List.getD [(4, 0), (8, 0), (9, 0)] i (0, 0)) (C35 _ _ _ _ _ h20) (.ac (.ac (.ac (.nil _)))) (.cons (Rn.agg' (.fl (.cons (Rn.accA (i' := 4) (nl rfl) rfl) .nil))) (.cons (Rn.accA (i' := 8) (nl rfl) rfl) (.cons (Rn.accA (i' := 9) (nl rfl) rfl) .nil))) (.flat (by kernel_rfl)) newflat_nil)
   refine TS.dp [⟨34, [ag [iv p0, sv 0 p1.length ANY], sv 1 p2.length ANY, sv 2 p3.length ANY], (H5_4 p1 p2 p3 p0 r6 r8), iv r13, []⟩, ⟨17, [sv 1 p2.length ANY], (H5_4 p1 p2 p3 p0 r6 r8), accV 8 r15.length, [ab 55 e55 r15]⟩, ⟨17, [sv 2 p3.length ANY], (H5_2 p1 p2 p3 p0 r6 r8 r15), accV 9 r17.length, [ab 55 e55 r17]⟩, ⟨35, [ag [iv r6.1, accV 4 r6.2.length], accV 8 r15.length, accV 9 r17.length], (H5_0 p1 p2 p3 p0 r6 r8 r15 r17), iv r19, []⟩] hT mixed 13 [7, 8, 9, 11, 52] [0, 1, 2, 4, 5, 6, 7] (st 76 [(7, pt 5 0), (8, sv 6 r8.1.length ANY), (9, sv 7 r8.2.1.length ANY), (11, iv r10), (52, .bool (r13 != r19))]) (H5_5 p1 p2 p3 r6 r8) ?_ ?_
   · refine QJ.rn (qs (S5_7 p2 p3 r8 r10) (H5_4 p1 p2 p3 p0 r6 r8) [] []) 2 (QJ.o { val := .bool false } (q_conv (e := r8.2.2 != r10) (b := false) (by kernel_rfl) hc12) (QJ.rn (qs (st 76 [(1, sv 1 p2.length ANY), (2, sv 2 p3.length ANY), (3, pt 3 0), (7, pt 5 0), (8, sv 6 r8.1.length ANY), (9, sv 7 r8.2.1.length ANY), (10, iv r8.2.2), (11, iv r10), (37, iv r8.2.2), (38, iv r10), (39, .bool false), (40, .bool false), (41, ag [iv p0, sv 0 p1.length ANY]), (42, sv 1 p2.length ANY), (43, sv 2 p3.length ANY)]) (H5_4 p1 p2 p3 p0 r6 r8) [] []) 4 (QJ.o { val := iv r13, new := [] } (qOf_call (g := 34) (args := [ag [iv p0, sv 0 p1.length ANY], sv 1 p2.length ANY, sv 2 p3.length ANY]) (by kernel_rfl) lookC_hit) (QJ.rn (qs (st 76 [(1, sv 1 p2.length ANY), (2, sv 2 p3.length ANY), (3, pt 3 0), (7, pt 5 0), (8, sv 6 r8.1.length ANY), (9, sv 7 r8.2.1.length ANY), (10, iv r8.2.2), (11, iv r10), (37, iv r8.2.2), (38, iv r10), (39, .bool false), (40, .bool false), (41, ag [iv p0, sv 0 p1.length ANY]), (42, sv 1 p2.length ANY), (43, sv 2 p3.length ANY), (44, iv r13), (45, ag [iv r6.1, accV 4 r6.2.length]), (46, sv 1 p2.length ANY)]) (H5_4 p1 p2 p3 p0 r6 r8) [] []) 2 (QJ.o { val := accV 8 r15.length, new := [ab 55 e55 r15] } (qOf_call (g := 17) (args := [sv 1 p2.length ANY]) (by kernel_rfl) (lookC_skip (fun hg => absurd (show (34 : Nat) = 17 from hg) (by decide)) lookC_hit)) (QJ.rn (qs (st 76 [(1, sv 1 p2.length ANY), (2, sv 2 p3.length ANY), (3, pt 3 0), (7, pt 5 0), (8, sv 6 r8.1.length ANY), (9, sv 7 r8.2.1.length ANY), (10, iv r8.2.2), (11, iv r10), (37, iv r8.2.2), (38, iv r10), (39, .bool false), (40, .bool false), (41, ag [iv p0, sv 0 p1.length ANY]), (42, sv 1 p2.length ANY), (43, sv 2 p3.length ANY), (44, iv r13), (45, ag [iv r6.1, accV 4 r6.2.length]), (46, sv 1 p2.length ANY), (47, accV 8 r15.length), (48, sv 2 p3.length ANY)]) (H5_2 p1 p2 p3 p0 r6 r8 r15) [(10, 8, 9)] []) 1 ?_))))))
     exact QJ.o { val := accV 9 r17.length, new := [ab 55 e55 r17] } (qOf_call (g := 17) (args := [sv 2 p3.length ANY]) (by kernel_rfl) (lookC_skip (fun hg => absurd (show (34 : Nat) = 17 from hg) (by decide)) (lookC_skip (by intro _ ha hh; first | (exact absurd (congrArg List.length hh) (Nat.ne_of_beq_eq_false rfl)) | (have hq := h16; have hi := h18; clear hF; first | (exfalso; simp at ha; done) | ((try simp at ha); have hr := sj (hq.symm.trans (Eq.trans (by first | rfl | (congr 1 <;> first | rfl | omega | simp_all)) hi)); subst hr; rfl))) lookC_hit))) (QJ.dn ⟨rfl, (SJ.o { val := iv r19, new := [] } (qOf_call (g := 35) (args := [ag [iv r6.1, accV 4 r6.2.length], accV 8 r15.length, accV 9 r17.length]) (by kernel_rfl) (lookC_skip (fun hg => absurd (show (34 : Nat) = 35 from hg) (by decide)) (lookC_skip (fun hg => absurd (show (17 : Nat) = 35 from hg) (by decide)) (lookC_skip (fun hg => absurd (show (17 : Nat) = 35 from hg) (by decide)) lookC_hit)))) SJ.la)⟩)
   exact hK
 rcases Bool.eq_false_or_eq_true (decide ((p1.length : Int) > 100)) with hc1 | hc1
 · replace hm41 := of_pos hm41 hc1
   have hm41 := sj hm41
   subst hm41
   exact TS.rg (TI.ra 3 [1, 2, 3, 14] (S5_14 p2 p3 p1) (TI.o { val := .bool true } (q_conv (e := decide ((p1.length : Int) > 100)) (b := true) (by kernel_rfl) hc1) [1, 2, 3, 15] [0, 1, 2, 3] (st 76 [(1, sv 1 p2.length ANY), (2, sv 2 p3.length ANY), (3, pt 3 0), (15, .bool true)]) (H5_10 p1 p2 p3 p0) (TI.ra 10 [1, 2, 3, 25] (S5_16 p2 p3) (TI.dn hK))))
 replace hm41 := of_neg hm41 hc1
 rcases Bool.eq_false_or_eq_true (decide ((p2.length : Int) > 120)) with hc2 | hc2
 · replace hm41 := of_pos hm41 hc2
   have hm41 := sj hm41
   subst hm41
   exact TS.rg (TI.ra 3 [1, 2, 3, 14] (S5_14 p2 p3 p1) (TI.o { val := .bool false } (q_conv (e := decide ((p1.length : Int) > 100)) (b := false) (by kernel_rfl) hc1) [1, 2, 3, 15] [0, 1, 2, 3] (S5_15 p2 p3) (H5_10 p1 p2 p3 p0) (TI.ra 3 [1, 2, 3, 16, 18] (S5_13 p2 p3) (TI.o { val := .bool true } (q_conv (e := decide ((p2.length : Int) > 120)) (b := true) (by kernel_rfl) hc2) [1, 2, 3, 16, 19] [0, 1, 2, 3] (st 76 [(1, sv 1 p2.length ANY), (2, sv 2 p3.length ANY), (3, pt 3 0), (16, .bool false), (19, .bool true)]) (H5_10 p1 p2 p3 p0) (TI.ra 6 [1, 2, 3, 25] (S5_16 p2 p3) (TI.dn hK))))))
 replace hm41 := of_neg hm41 hc2
 have hm41 := sj hm41
 subst hm41
 exact TS.rg (TI.ra 3 [1, 2, 3, 14] (S5_14 p2 p3 p1) (TI.o { val := .bool false } (q_conv (e := decide ((p1.length : Int) > 100)) (b := false) (by kernel_rfl) hc1) [1, 2, 3, 15] [0, 1, 2, 3] (S5_15 p2 p3) (H5_10 p1 p2 p3 p0) (TI.ra 3 [1, 2, 3, 16, 18] (S5_13 p2 p3) (TI.o { val := .bool false } (q_conv (e := decide ((p2.length : Int) > 120)) (b := false) (by kernel_rfl) hc2) [1, 2, 3, 16, 19] [0, 1, 2, 3] (st 76 [(1, sv 1 p2.length ANY), (2, sv 2 p3.length ANY), (3, pt 3 0), (16, .bool false), (19, .bool false)]) (H5_10 p1 p2 p3 p0) (TI.ra 6 [1, 2, 3, 25] (st 76 [(1, sv 1 p2.length ANY), (2, sv 2 p3.length ANY), (3, pt 3 0), (25, .bool (decide ((p3.length : Int) > 120)))]) (TI.dn hK))))))
theorem C5 (p0 : Int) (p1 : List ((Int × Bool) × (Int × Bool))) (p2 p3 : List (Int × Bool)) (r : Bool) (hF : F5 p0 p1 p2 p3 = some r) : PureSim Try.prog 5 [ag [iv p0, sv 0 p1.length ANY], sv 1 p2.length ANY, sv 2 p3.length ANY] (H5_17 p1 p2 p3) (V5 3 r) (N5 3 r) :=
 PureSim.of_Fin Try.func5 (c := c5) (by kernel_rfl) (by kernel_rfl) 3 rfl [0, 1, 2] [0, 1, 2] (by kernel_rfl) (B5 p0 p1 p2 p3 r hF)
end
end Go.Proofs.Ytiaippkjgmccoaa
