/- What functions of the program compute, and that they do. -/
import Derived.Test.YtiaippkjgmccoaaKF
set_option linter.unusedVariables false
set_option linter.unusedSimpArgs false
set_option maxRecDepth 100000
set_option maxHeartbeats 4000000
namespace Go.Proofs.Ytiaippkjgmccoaa
open Go Go.Cl
noncomputable section
noncomputable def c34 : Code := Try.f34.code
def S34_0 (p2 : (List (Int × Bool))) (p3 : (List (Int × Bool))) (o8 : (Int × Bool)) (o11 : (Int × Bool)) : CAct := (st 57 [(1, sv 1 p2.length ANY), (2, sv 2 p3.length ANY), (3, pt 3 0), (10, pt 5 0), (11, pt 6 0), (14, sv 4 2 2), (15, iv 2), (16, iv 2), (17, .bool false), (27, sv 1 p2.length ANY), (28, .pointer (some ⟨1, 0 + (Int.toNat 0) * 2, none⟩)), (29, ag [iv o8.1, .bool o8.2]), (30, sv 1 p2.length ANY), (31, sv 1 p2.length ANY), (32, iv (p2.length : Int)), (33, iv (w64 ((p2.length : Int) - 1))), (34, .pointer (some ⟨1, 0 + (Int.toNat (w64 ((p2.length : Int) - 1))) * 2, none⟩)), (35, ag [iv o11.1, .bool o11.2])])
def S34_1 (p2 : (List (Int × Bool))) (p3 : (List (Int × Bool))) (o8 : (Int × Bool)) (o11 : (Int × Bool)) : CAct := (st 57 [(1, sv 1 p2.length ANY), (2, sv 2 p3.length ANY), (3, pt 3 0), (14, sv 4 2 2), (15, iv 2), (16, iv 2), (17, .bool false), (27, sv 1 p2.length ANY), (28, .pointer (some ⟨1, 0 + (Int.toNat 0) * 2, none⟩)), (29, ag [iv o8.1, .bool o8.2]), (30, sv 1 p2.length ANY), (31, sv 1 p2.length ANY), (32, iv (p2.length : Int)), (33, iv (w64 ((p2.length : Int) - 1))), (34, .pointer (some ⟨1, 0 + (Int.toNat (w64 ((p2.length : Int) - 1))) * 2, none⟩)), (35, ag [iv o11.1, .bool o11.2])])
def S34_2 (p2 : (List (Int × Bool))) (p3 : (List (Int × Bool))) (o8 : (Int × Bool)) : CAct := (st 57 [(1, sv 1 p2.length ANY), (2, sv 2 p3.length ANY), (3, pt 3 0), (14, sv 4 2 2), (15, iv 2), (16, iv 2), (17, .bool false), (27, sv 1 p2.length ANY), (28, .pointer (some ⟨1, 0 + (Int.toNat 0) * 2, none⟩)), (29, ag [iv o8.1, .bool o8.2]), (30, sv 1 p2.length ANY), (31, sv 1 p2.length ANY), (32, iv (p2.length : Int)), (33, iv (w64 ((p2.length : Int) - 1))), (34, .pointer (some ⟨1, 0 + (Int.toNat (w64 ((p2.length : Int) - 1))) * 2, none⟩))])
def S34_3 (p2 : (List (Int × Bool))) (p3 : (List (Int × Bool))) (o8 : (Int × Bool)) : CAct := (st 57 [(1, sv 1 p2.length ANY), (2, sv 2 p3.length ANY), (3, pt 3 0), (14, sv 4 2 2), (15, iv 2), (16, iv 2), (17, .bool false), (27, sv 1 p2.length ANY), (28, .pointer (some ⟨1, 0 + (Int.toNat 0) * 2, none⟩)), (29, ag [iv o8.1, .bool o8.2]), (30, sv 1 p2.length ANY), (31, sv 1 p2.length ANY), (32, iv (p2.length : Int)), (33, iv (w64 ((p2.length : Int) - 1)))])
def S34_4 (p3 : (List (Int × Bool))) (o11 : (Int × Bool)) (o8 : (Int × Bool)) (r13 : (Int × Bool)) (o17 : (Int × Bool)) : CAct := (st 57 [(2, sv 2 p3.length ANY), (10, pt 5 0), (11, pt 6 0), (36, ag [iv o11.1, .bool o11.2]), (37, ag [iv o8.1, .bool o8.2]), (38, ag [iv r13.1, .bool r13.2]), (39, .bool false), (40, .bool false), (41, sv 2 p3.length ANY), (42, .pointer (some ⟨2, 0 + (Int.toNat 0) * 2, none⟩)), (43, ag [iv o17.1, .bool o17.2]), (44, ag [iv o11.1, .bool o11.2])])
def H34_5 (p1 : (List ((Int × Bool) × (Int × Bool)))) (p2 : (List (Int × Bool))) (p3 : (List (Int × Bool))) (p0 : Int) (o8 : (Int × Bool)) (o11 : (Int × Bool)) : List Blk := [ab 86 e86 p1, ab 50 e50 p2, ab 50 e50 p3, cl 24 [iv p0, sv 0 p1.length ANY], cl 25 [sv 1 p2.length ANY, sv 2 p3.length ANY], cl 50 [iv o8.1, .bool o8.2], cl 50 [iv o11.1, .bool o11.2]]
def H34_6 (p1 : (List ((Int × Bool) × (Int × Bool)))) (p2 : (List (Int × Bool))) (p3 : (List (Int × Bool))) (p0 : Int) (o8 : (Int × Bool)) : List Blk := [ab 86 e86 p1, ab 50 e50 p2, ab 50 e50 p3, cl 24 [iv p0, sv 0 p1.length ANY], cl 25 [sv 1 p2.length ANY, sv 2 p3.length ANY], cl 50 [iv o8.1, .bool o8.2], cl 50 [iv 0, .bool false]]
def S34_7 (p2 : (List (Int × Bool))) (p3 : (List (Int × Bool))) (o8 : (Int × Bool)) : CAct := (st 57 [(1, sv 1 p2.length ANY), (2, sv 2 p3.length ANY), (3, pt 3 0), (14, sv 4 2 2), (15, iv 2), (16, iv 2), (17, .bool false), (27, sv 1 p2.length ANY), (28, .pointer (some ⟨1, 0 + (Int.toNat 0) * 2, none⟩)), (29, ag [iv o8.1, .bool o8.2])])
def S34_8 (p2 : (List (Int × Bool))) (p3 : (List (Int × Bool))) : CAct := (st 57 [(1, sv 1 p2.length ANY), (2, sv 2 p3.length ANY), (3, pt 3 0), (14, sv 4 2 2), (15, iv 2), (16, iv 2), (17, .bool false), (27, sv 1 p2.length ANY), (28, .pointer (some ⟨1, 0 + (Int.toNat 0) * 2, none⟩))])
def H34_9 (p1 : (List ((Int × Bool) × (Int × Bool)))) (p2 : (List (Int × Bool))) (p3 : (List (Int × Bool))) (p0 : Int) : List Blk := [ab 86 e86 p1, ab 50 e50 p2, ab 50 e50 p3, cl 24 [iv p0, sv 0 p1.length ANY], cl 25 [sv 1 p2.length ANY, sv 2 p3.length ANY]]
def S34_10 (p3 : (List (Int × Bool))) (o11 : (Int × Bool)) (o8 : (Int × Bool)) (r13 : (Int × Bool)) : CAct := (st 57 [(2, sv 2 p3.length ANY), (10, pt 5 0), (11, pt 6 0), (36, ag [iv o11.1, .bool o11.2]), (37, ag [iv o8.1, .bool o8.2]), (38, ag [iv r13.1, .bool r13.2]), (39, .bool false), (40, .bool false), (41, sv 2 p3.length ANY)])
def S34_11 (p2 : (List (Int × Bool))) (p3 : (List (Int × Bool))) : CAct := (st 57 [(1, sv 1 p2.length ANY), (2, sv 2 p3.length ANY), (3, pt 3 0), (14, sv 4 2 2), (15, iv 2), (16, iv 2), (17, .bool false), (27, sv 1 p2.length ANY)])
def H34_12 (p1 : (List ((Int × Bool) × (Int × Bool)))) (p2 : (List (Int × Bool))) (p3 : (List (Int × Bool))) (o8 : (Int × Bool)) (o11 : (Int × Bool)) : List Blk := [ab 86 e86 p1, ab 50 e50 p2, ab 50 e50 p3, .dead, .dead, cl 50 [iv o8.1, .bool o8.2], cl 50 [iv o11.1, .bool o11.2]]
def H34_13 (p1 : (List ((Int × Bool) × (Int × Bool)))) (p2 : (List (Int × Bool))) (p3 : (List (Int × Bool))) : List Blk := [ab 86 e86 p1, ab 50 e50 p2, ab 50 e50 p3, .dead, .dead, .dead, .dead]
def S34_14 (p3 : (List (Int × Bool))) (o11 : (Int × Bool)) (o8 : (Int × Bool)) : CAct := (st 57 [(2, sv 2 p3.length ANY), (10, pt 5 0), (11, pt 6 0), (36, ag [iv o11.1, .bool o11.2]), (37, ag [iv o8.1, .bool o8.2])])
def F34 (p0 : Int) (p1 : (List ((Int × Bool) × (Int × Bool)))) (p2 : (List (Int × Bool))) (p3 : (List (Int × Bool))) : Option Int :=
 F30 p0 p1 p2 >>= fun r1 =>
 if r1 != 0 then
  some r1
 else
  F30 p0 p1 p3 >>= fun r4 =>
  if r4 != 0 then
   some r4
  else
   if (0 : Int) ≤ 0 ∧ 0 < (p2.length : Int) then
    some (List.getD p2 (Int.toNat 0) (0, false)) >>= fun o8 =>
    if (0 : Int) ≤ w64 ((p2.length : Int) - 1) ∧ w64 ((p2.length : Int) - 1) < (p2.length : Int) then
     some (List.getD p2 (Int.toNat (w64 ((p2.length : Int) - 1))) (0, false)) >>= fun o11 =>
     F72 o8.1 o8.2 >>= fun r13 =>
     (
      if !((o11.1 == r13.1) && ((o11.2 == r13.2) && true)) then
       some (true)
      else
       if (0 : Int) ≤ 0 ∧ 0 < (p3.length : Int) then
        some (List.getD p3 (Int.toNat 0) (0, false)) >>= fun o17 =>
        if !((o17.1 == o11.1) && ((o17.2 == o11.2) && true)) then
         some (true)
        else
         if (0 : Int) ≤ w64 ((p3.length : Int) - 1) ∧ w64 ((p3.length : Int) - 1) < (p3.length : Int) then
          some (List.getD p3 (Int.toNat (w64 ((p3.length : Int) - 1))) (0, false)) >>= fun o21 =>
          some (!((o21.1 == o8.1) && ((o21.2 == o8.2) && true)))
         else none
       else none
     : Option Bool) >>= fun m23 =>
     if m23 then
      some 12
     else
      some 0
    else none
   else none
def V34 (b : Nat) (r : Int) : Value := iv r
def N34 (b : Nat) (r : Int) : List Blk := []
theorem B34 (p0 : Int) (p1 : (List ((Int × Bool) × (Int × Bool)))) (p2 : (List (Int × Bool))) (p3 : (List (Int × Bool))) (r : Int) (hF : F34 p0 p1 p2 p3 = some r) : TS Try.prog 3 3 c34 (st 57 [(0, ag [iv p0, sv 0 p1.length ANY]), (1, sv 1 p2.length ANY), (2, sv 2 p3.length ANY)]) [ab 86 e86 p1, ab 50 e50 p2, ab 50 e50 p3] (NX Try.prog 3 3 [] (FinP Try.prog Try.f34 3 (V34 3 r) (N34 3 r))) := by
 unfold F34 at hF
 refine TS.sq (TS.rg (TI.rn 2 [1, 2, 3] [0, 1, 2, 3] (st 57 [(1, sv 1 p2.length ANY), (2, sv 2 p3.length ANY), (3, pt 3 0)]) [ab 86 e86 p1, ab 50 e50 p2, ab 50 e50 p3, cl 24 [iv p0, sv 0 p1.length ANY]] (TI.dn (NX.sq (TS.sq (TS.sq (TS.rg (TI.rn 5 [1, 2, 3, 14, 15, 16] [0, 1, 2, 3, 4] (st 57 [(1, sv 1 p2.length ANY), (2, sv 2 p3.length ANY), (3, pt 3 0), (14, sv 4 2 2), (15, iv 2), (16, iv 0)]) (H34_9 p1 p2 p3 p0) ?_))))))))
 refine TI.dn (NX.sq (TS.bk 0 (TS.lp (TL.round (TS.sq (TS.rg (TI.ra 1 [1, 2, 3, 14, 15, 16, 17] (st 57 [(1, sv 1 p2.length ANY), (2, sv 2 p3.length ANY), (3, pt 3 0), (14, sv 4 2 2), (15, iv 2), (16, iv 0), (17, .bool true)]) (TI.dn ?_))))))))
 refine NX.sq (TS.sq (TS.cdT (.tmp 17) (TS.sk (NX.sq (TS.sq (TS.bk 1 (TS.sq (TS.rg ?_))))))))
 refine TI.ra 3 [1, 2, 3, 8, 14, 15, 16] (st 57 [(1, sv 1 p2.length ANY), (2, sv 2 p3.length ANY), (3, pt 3 0), (8, sv 1 p2.length ANY), (14, sv 4 2 2), (15, iv 2), (16, iv 0)]) (TI.dn (NX.sq (TS.sq ?_)))
 have hX := of_do hF
 clear hF
 obtain ⟨r1, h2, hF⟩ := hX
 refine TS.rg (TI.ra 2 [1, 2, 3, 14, 15, 16, 20, 21] (st 57 [(1, sv 1 p2.length ANY), (2, sv 2 p3.length ANY), (3, pt 3 0), (14, sv 4 2 2), (15, iv 2), (16, iv 0), (20, ag [iv p0, sv 0 p1.length ANY]), (21, sv 1 p2.length ANY)]) (TI.cp 30 [ag [iv p0, sv 0 p1.length ANY], sv 1 p2.length ANY] (iv r1) [] (PureSim.ren (hc := [ab 86 e86 p1, ab 50 e50 p2]) (fun i => List.getD [(0, 0), (1, 0)] i (0, 0)) (C30 _ _ _ _ h2) (.ac (.ac (.nil _))) (.cons (Rn.agg' (.fl (.cons (Rn.any _ _ _ _ _ _ (Nat.le_of_ble_eq_true rfl) rfl rfl (by decide)) .nil))) (.cons (Rn.any _ _ _ _ _ _ (Nat.le_of_ble_eq_true rfl) rfl rfl (by decide)) .nil)) (.flat (by kernel_rfl)) newflat_nil) (TI.ra 1 [1, 2, 3, 9, 14, 15, 16] (st 57 [(1, sv 1 p2.length ANY), (2, sv 2 p3.length ANY), (3, pt 3 0), (9, iv r1), (14, sv 4 2 2), (15, iv 2), (16, iv 0)]) (TI.dn (NX.sq (TS.sq (TS.rg (TI.ra 2 [1, 2, 3, 9, 14, 15, 16, 24] (st 57 [(1, sv 1 p2.length ANY), (2, sv 2 p3.length ANY), (3, pt 3 0), (9, iv r1), (14, sv 4 2 2), (15, iv 2), (16, iv 0), (24, .bool (r1 != 0))]) ?_))))))))
 refine TI.dn (NX.sq ?_)
 refine TS.cd (.tmp 24) (r1 != 0) (fun hc3 => ?_) (fun hc3 => ?_)
 · replace hF := of_pos hF hc3
   refine TS.sq (TS.rg (TI.rn 2 [6] [0, 1, 2] (st 57 [(6, iv r1)]) [ab 86 e86 p1, ab 50 e50 p2, ab 50 e50 p3, .dead, .dead] (TI.dn (NX.sq (TS.rt (NX.bkR (NX.sqR ?_)))))))
   refine Rd.out (by simp) (NX.bkR (NX.sqR ?_))
   have hF := Option.some.inj hF
   subst hF
   exact ⟨.inr rfl, rfl, iv r1, by kernel_rfl, WkV.flat0 (by kernel_rfl) (Nat.le_of_ble_eq_true rfl)⟩
 replace hF := of_neg hF hc3
 refine TS.sk (NX.bk (NX.sq (TS.rg (TI.ra 2 [1, 2, 3, 14, 15, 16] (st 57 [(1, sv 1 p2.length ANY), (2, sv 2 p3.length ANY), (3, pt 3 0), (14, sv 4 2 2), (15, iv 2), (16, iv 1)]) (TI.dn ?_)))))
 refine Rd.again Wk.refl (TL.round (TS.sq (TS.rg (TI.ra 1 [1, 2, 3, 14, 15, 16, 17] (st 57 [(1, sv 1 p2.length ANY), (2, sv 2 p3.length ANY), (3, pt 3 0), (14, sv 4 2 2), (15, iv 2), (16, iv 1), (17, .bool true)]) (TI.dn (NX.sq (TS.sq (TS.cdT (.tmp 17) (TS.sk ?_)))))))))
 refine NX.sq (TS.sq (TS.bk 1 (TS.sq (TS.rg (TI.ra 3 [1, 2, 3, 8, 14, 15, 16] (st 57 [(1, sv 1 p2.length ANY), (2, sv 2 p3.length ANY), (3, pt 3 0), (8, sv 2 p3.length ANY), (14, sv 4 2 2), (15, iv 2), (16, iv 1)]) (TI.dn (NX.sq (TS.sq ?_))))))))
 have hX := of_do hF
 clear hF
 obtain ⟨r4, h5, hF⟩ := hX
 refine TS.rg (TI.ra 2 [1, 2, 3, 14, 15, 16, 20, 21] (st 57 [(1, sv 1 p2.length ANY), (2, sv 2 p3.length ANY), (3, pt 3 0), (14, sv 4 2 2), (15, iv 2), (16, iv 1), (20, ag [iv p0, sv 0 p1.length ANY]), (21, sv 2 p3.length ANY)]) (TI.cp 30 [ag [iv p0, sv 0 p1.length ANY], sv 2 p3.length ANY] (iv r4) [] (PureSim.ren (hc := [ab 86 e86 p1, ab 50 e50 p3]) (fun i => List.getD [(0, 0), (2, 0)] i (0, 0)) (C30 _ _ _ _ h5) (.ac (.ac (.nil _))) (.cons (Rn.agg' (.fl (.cons (Rn.any _ _ _ _ _ _ (Nat.le_of_ble_eq_true rfl) rfl rfl (by decide)) .nil))) (.cons (Rn.any _ _ _ _ _ _ (Nat.le_of_ble_eq_true rfl) rfl rfl (by decide)) .nil)) (.flat (by kernel_rfl)) newflat_nil) (TI.ra 1 [1, 2, 3, 9, 14, 15, 16] (st 57 [(1, sv 1 p2.length ANY), (2, sv 2 p3.length ANY), (3, pt 3 0), (9, iv r4), (14, sv 4 2 2), (15, iv 2), (16, iv 1)]) (TI.dn (NX.sq (TS.sq (TS.rg (TI.ra 2 [1, 2, 3, 9, 14, 15, 16, 24] (st 57 [(1, sv 1 p2.length ANY), (2, sv 2 p3.length ANY), (3, pt 3 0), (9, iv r4), (14, sv 4 2 2), (15, iv 2), (16, iv 1), (24, .bool (r4 != 0))]) ?_))))))))
 refine TI.dn (NX.sq ?_)
 refine TS.cd (.tmp 24) (r4 != 0) (fun hc6 => ?_) (fun hc6 => ?_)
 · replace hF := of_pos hF hc6
   refine TS.sq (TS.rg (TI.rn 2 [6] [0, 1, 2] (st 57 [(6, iv r4)]) [ab 86 e86 p1, ab 50 e50 p2, ab 50 e50 p3, .dead, .dead] (TI.dn (NX.sq (TS.rt (NX.bkR (NX.sqR ?_)))))))
   refine Rd.out (by simp) (NX.bkR (NX.sqR ?_))
   have hF := Option.some.inj hF
   subst hF
   exact ⟨.inr rfl, rfl, iv r4, by kernel_rfl, WkV.flat0 (by kernel_rfl) (Nat.le_of_ble_eq_true rfl)⟩
 replace hF := of_neg hF hc6
 refine TS.sk (NX.bk (NX.sq (TS.rg (TI.ra 2 [1, 2, 3, 14, 15, 16] (st 57 [(1, sv 1 p2.length ANY), (2, sv 2 p3.length ANY), (3, pt 3 0), (14, sv 4 2 2), (15, iv 2), (16, iv 2)]) (TI.dn ?_)))))
 refine Rd.again Wk.refl (TL.round (TS.sq (TS.rg (TI.ra 1 [1, 2, 3, 14, 15, 16, 17] (st 57 [(1, sv 1 p2.length ANY), (2, sv 2 p3.length ANY), (3, pt 3 0), (14, sv 4 2 2), (15, iv 2), (16, iv 2), (17, .bool false)]) (TI.dn (NX.sq (TS.sq (TS.cdF (.tmp 17) (TS.ex 0 ?_)))))))))
 refine NX.sqX ?_
 refine Rd.out (by simp) (NX.bkX (NX.sq (TS.sq ?_)))
 have hX := of_guard hF
 clear hF
 obtain ⟨hg7, hF⟩ := hX
 have hX := of_do hF
 clear hF
 obtain ⟨o8, h9, hF⟩ := hX
 replace h9 := Option.some.inj h9
 have hX := of_guard hF
 clear hF
 obtain ⟨hg10, hF⟩ := hX
 have hX := of_do hF
 clear hF
 obtain ⟨o11, h12, hF⟩ := hX
 replace h12 := Option.some.inj h12
 refine TS.draw' (id := 8) (b := true) (ops := c34.s2.s2.s1.rops) (fin := (qs (S34_0 p2 p3 o8 o11) (H34_6 p1 p2 p3 p0 o8) [(10, 6, 7), (9, 5, 6)] [(11, 5)])) (fin2 := (qs (S34_0 p2 p3 o8 o11) (H34_6 p1 p2 p3 p0 o8) [(10, 6, 7), (9, 5, 6)] [(11, 5)])) (a1 := (S34_0 p2 p3 o8 o11)) (h1 := (H34_5 p1 p2 p3 p0 o8 o11)) (a2 := (st 57 [(2, sv 2 p3.length ANY), (10, pt 5 0), (11, pt 6 0)])) (h2 := (H34_12 p1 p2 p3 o8 o11)) [] (fun e he => by cases he) mixed (by kernel_rfl) rfl 12 (by kernel_rfl) [(11, 5)] ?_ rfl (.inr ⟨?_, (by kernel_rfl)⟩) ?_ [2, 10, 11] [0, 1, 2, 5, 6] (by kernel_rfl) ?_
 · exact QI.run (s1 := (qs (S34_11 p2 p3) (H34_9 p1 p2 p3 p0) [] [])) 1 (by kernel_rfl) (by kernel_rfl) (QI.op (q := { val := .pointer (some ⟨1, 0 + (Int.toNat 0) * 2, none⟩) }) (s1 := (qs (S34_8 p2 p3) (H34_9 p1 p2 p3 p0) [] [])) (by decide) (q_ixS 1 0 ((Int.toNat 0) * 2) (by kernel_rfl) hg7) (by kernel_rfl) (QI.op (q := { val := ag [iv o8.1, .bool o8.2] }) (s1 := (qs (S34_7 p2 p3 o8) (H34_9 p1 p2 p3 p0) [] [])) (by decide) (q_nAa Try.prog (H34_9 p1 p2 p3 p0) 50 1 (0 + (Int.toNat 0) * 2) p2 e50 2 50 (Int.toNat 0) (0, false) h9) (by kernel_rfl) (QI.run (s1 := (qs (S34_3 p2 p3 o8) (H34_9 p1 p2 p3 p0) [] [])) 4 (by kernel_rfl) (by kernel_rfl) (QI.op (q := { val := .pointer (some ⟨1, 0 + (Int.toNat (w64 ((p2.length : Int) - 1))) * 2, none⟩) }) (s1 := (qs (S34_2 p2 p3 o8) (H34_9 p1 p2 p3 p0) [] [])) (by decide) (q_ixS 1 0 ((Int.toNat (w64 ((p2.length : Int) - 1))) * 2) (by kernel_rfl) hg10) (by kernel_rfl) (QI.op (q := { val := ag [iv o11.1, .bool o11.2] }) (s1 := (qs (S34_1 p2 p3 o8 o11) (H34_9 p1 p2 p3 p0) [] [])) (by decide) (q_nAa Try.prog (H34_9 p1 p2 p3 p0) 50 1 (0 + (Int.toNat (w64 ((p2.length : Int) - 1))) * 2) p2 e50 2 50 (Int.toNat (w64 ((p2.length : Int) - 1))) (0, false) h12) (by kernel_rfl) (QI.run (s1 := (qs (S34_0 p2 p3 o8 o11) (H34_6 p1 p2 p3 p0 o8) [(10, 6, 7), (9, 5, 6)] [(11, 5)])) 3 (by kernel_rfl) (by kernel_rfl) (QI.done (by kernel_rfl))))))))
 · exact QI.run (s1 := (qs (S34_11 p2 p3) (H34_9 p1 p2 p3 p0) [] [])) 1 (by kernel_rfl) (by kernel_rfl) (QI.op (q := { val := .pointer (some ⟨1, 0 + (Int.toNat 0) * 2, none⟩) }) (s1 := (qs (S34_8 p2 p3) (H34_9 p1 p2 p3 p0) [] [])) (by decide) (q_ixS 1 0 ((Int.toNat 0) * 2) (by kernel_rfl) hg7) (by kernel_rfl) (QI.op (q := { val := ag [iv o8.1, .bool o8.2] }) (s1 := (qs (S34_7 p2 p3 o8) (H34_9 p1 p2 p3 p0) [] [])) (by decide) (q_nAa Try.prog (H34_9 p1 p2 p3 p0) 50 1 (0 + (Int.toNat 0) * 2) p2 e50 2 50 (Int.toNat 0) (0, false) h9) (by kernel_rfl) (QI.run (s1 := (qs (S34_3 p2 p3 o8) (H34_9 p1 p2 p3 p0) [] [])) 4 (by kernel_rfl) (by kernel_rfl) (QI.op (q := { val := .pointer (some ⟨1, 0 + (Int.toNat (w64 ((p2.length : Int) - 1))) * 2, none⟩) }) (s1 := (qs (S34_2 p2 p3 o8) (H34_9 p1 p2 p3 p0) [] [])) (by decide) (q_ixS 1 0 ((Int.toNat (w64 ((p2.length : Int) - 1))) * 2) (by kernel_rfl) hg10) (by kernel_rfl) (QI.op (q := { val := ag [iv o11.1, .bool o11.2] }) (s1 := (qs (S34_1 p2 p3 o8 o11) (H34_9 p1 p2 p3 p0) [] [])) (by decide) (q_nAa Try.prog (H34_9 p1 p2 p3 p0) 50 1 (0 + (Int.toNat (w64 ((p2.length : Int) - 1))) * 2) p2 e50 2 50 (Int.toNat (w64 ((p2.length : Int) - 1))) (0, false) h12) (by kernel_rfl) (QI.run (s1 := (qs (S34_0 p2 p3 o8 o11) (H34_6 p1 p2 p3 p0 o8) [(10, 6, 7), (9, 5, 6)] [(11, 5)])) 3 (by kernel_rfl) (by kernel_rfl) (QI.done (by kernel_rfl))))))))
 · exact SI.run (a2 := (S34_0 p2 p3 o8 o11)) (h2 := (H34_5 p1 p2 p3 p0 o8 o11)) 1 (by kernel_rfl) (SI.done (by kernel_rfl))
 refine TS.sq (TS.sq ?_)
 have hX := of_do hF
 clear hF
 obtain ⟨r13, h14, hF⟩ := hX
 have hX := of_do hF
 clear hF
 obtain ⟨m23, hm24, hF⟩ := hX
 have hK : NX Try.prog 3 3 [.sq c34.s2.s2.s2.s1.s2, .sq c34.s2.s2.s2.s2] (FinP Try.prog Try.f34 3 (V34 3 r) (N34 3 r)) .normal (st 57 [(56, .bool m23)]) (H34_13 p1 p2 p3) := by
  refine NX.sq ?_
  cases m23 with
  | true =>
   replace hF := of_pos hF rfl
   refine TS.cdT (.tmp 56) (TS.sq (TS.rg (TI.ra 1 [6] (st 57 [(6, iv 12)]) (TI.dn (NX.sq (TS.rt (NX.sqR ?_)))))))
   have hF := Option.some.inj hF
   subst hF
   exact ⟨.inr rfl, rfl, iv 12, by kernel_rfl, WkV.flat0 (by kernel_rfl) (Nat.le_of_ble_eq_true rfl)⟩
  | false =>
   replace hF := of_neg hF rfl
   refine TS.cdF (.tmp 56) (TS.sk (NX.sq (TS.sq (TS.rg (TI.ra 1 [6] (st 57 [(6, iv 0)]) (TI.dn (NX.sq (TS.rt ?_))))))))
   have hF := Option.some.inj hF
   subst hF
   exact ⟨.inr rfl, rfl, iv 0, by kernel_rfl, WkV.flat0 (by kernel_rfl) (Nat.le_of_ble_eq_true rfl)⟩
 rcases Bool.eq_false_or_eq_true (!((o11.1 == r13.1) && ((o11.2 == r13.2) && true))) with hc15 | hc15
 · replace hm24 := of_pos hm24 hc15
   have hm24 := Option.some.inj hm24
   subst hm24
   have hT : ∀ e ∈ ([⟨72, [ag [iv o8.1, .bool o8.2]], (H34_12 p1 p2 p3 o8 o11), ag [iv r13.1, .bool r13.2], []⟩] : List Entry), PureSim Try.prog e.g e.args e.h e.v e.new := by
    intro e he
    simp only [List.mem_cons, List.not_mem_nil, or_false] at he
    rcases he with rfl
    exact PureSim.ak (C72 _ _ _ h14)
   refine TS.dp [⟨72, [ag [iv o8.1, .bool o8.2]], (H34_12 p1 p2 p3 o8 o11), ag [iv r13.1, .bool r13.2], []⟩] hT mixed 19 [56] [0, 1, 2] (st 57 [(56, .bool true)]) (H34_13 p1 p2 p3) ?_ ?_
   · exact QJ.rn (qs (S34_14 p3 o11 o8) (H34_12 p1 p2 p3 o8 o11) [] []) 2 (QJ.o { val := ag [iv r13.1, .bool r13.2], new := [] } (qOf_call (g := 72) (args := [ag [iv o8.1, .bool o8.2]]) (by kernel_rfl) lookC_hit) (QJ.o { val := .bool true } (q_conv (e := !((o11.1 == r13.1) && ((o11.2 == r13.2) && true))) (b := true) (by kernel_rfl) hc15) (QJ.rn (qs (st 57 [(2, sv 2 p3.length ANY), (10, pt 5 0), (11, pt 6 0), (36, ag [iv o11.1, .bool o11.2]), (37, ag [iv o8.1, .bool o8.2]), (38, ag [iv r13.1, .bool r13.2]), (39, .bool true), (40, .bool true), (41, undef), (42, undef), (43, undef), (44, undef), (45, undef), (46, .bool true), (47, .bool true), (48, undef), (49, undef), (50, undef), (51, undef), (52, undef), (53, undef), (54, undef)]) (H34_12 p1 p2 p3 o8 o11) [] []) 15 (QJ.dn ⟨rfl, SJ.la⟩))))
   exact hK
 replace hm24 := of_neg hm24 hc15
 have hX := of_guard hm24
 clear hm24
 obtain ⟨hg16, hm24⟩ := hX
 have hX := of_do hm24
 clear hm24
 obtain ⟨o17, h18, hm24⟩ := hX
 replace h18 := Option.some.inj h18
 rcases Bool.eq_false_or_eq_true (!((o17.1 == o11.1) && ((o17.2 == o11.2) && true))) with hc19 | hc19
 · replace hm24 := of_pos hm24 hc19
   have hm24 := Option.some.inj hm24
   subst hm24
   have hT : ∀ e ∈ ([⟨72, [ag [iv o8.1, .bool o8.2]], (H34_12 p1 p2 p3 o8 o11), ag [iv r13.1, .bool r13.2], []⟩] : List Entry), PureSim Try.prog e.g e.args e.h e.v e.new := by
    intro e he
    simp only [List.mem_cons, List.not_mem_nil, or_false] at he
    rcases he with rfl
    exact PureSim.ak (C72 _ _ _ h14)
   refine TS.dp [⟨72, [ag [iv o8.1, .bool o8.2]], (H34_12 p1 p2 p3 o8 o11), ag [iv r13.1, .bool r13.2], []⟩] hT mixed 19 [56] [0, 1, 2] (st 57 [(56, .bool true)]) (H34_13 p1 p2 p3) ?_ ?_
   · refine QJ.rn (qs (S34_14 p3 o11 o8) (H34_12 p1 p2 p3 o8 o11) [] []) 2 (QJ.o { val := ag [iv r13.1, .bool r13.2], new := [] } (qOf_call (g := 72) (args := [ag [iv o8.1, .bool o8.2]]) (by kernel_rfl) lookC_hit) (QJ.o { val := .bool false } (q_conv (e := !((o11.1 == r13.1) && ((o11.2 == r13.2) && true))) (b := false) (by kernel_rfl) hc15) (QJ.rn (qs (S34_10 p3 o11 o8 r13) (H34_12 p1 p2 p3 o8 o11) [] []) 2 (QJ.o { val := .pointer (some ⟨2, 0 + (Int.toNat 0) * 2, none⟩) } (q_ixS 2 0 ((Int.toNat 0) * 2) (by kernel_rfl) hg16) (QJ.o { val := ag [iv o17.1, .bool o17.2] } (q_nAa Try.prog (H34_12 p1 p2 p3 o8 o11) 50 2 (0 + (Int.toNat 0) * 2) p3 e50 2 50 (Int.toNat 0) (0, false) h18) (QJ.rn (qs (S34_4 p3 o11 o8 r13 o17) (H34_12 p1 p2 p3 o8 o11) [] []) 1 (QJ.o { val := .bool true } (q_conv (e := !((o17.1 == o11.1) && ((o17.2 == o11.2) && true))) (b := true) (by kernel_rfl) hc19) (QJ.rn (qs (st 57 [(2, sv 2 p3.length ANY), (10, pt 5 0), (11, pt 6 0), (36, ag [iv o11.1, .bool o11.2]), (37, ag [iv o8.1, .bool o8.2]), (38, ag [iv r13.1, .bool r13.2]), (39, .bool false), (40, .bool false), (41, sv 2 p3.length ANY), (42, .pointer (some ⟨2, 0 + (Int.toNat 0) * 2, none⟩)), (43, ag [iv o17.1, .bool o17.2]), (44, ag [iv o11.1, .bool o11.2]), (45, .bool true), (46, .bool true), (47, .bool true), (48, undef), (49, undef), (50, undef), (51, undef), (52, undef), (53, undef), (54, undef)]) (H34_12 p1 p2 p3 o8 o11) [] []) 9 ?_))))))))
     exact QJ.dn ⟨rfl, SJ.la⟩
   exact hK
 replace hm24 := of_neg hm24 hc19
 have hX := of_guard hm24
 clear hm24
 obtain ⟨hg20, hm24⟩ := hX
 have hX := of_do hm24
 clear hm24
 obtain ⟨o21, h22, hm24⟩ := hX
 replace h22 := Option.some.inj h22
 have hm24 := Option.some.inj hm24
 subst hm24
 have hT : ∀ e ∈ ([⟨72, [ag [iv o8.1, .bool o8.2]], (H34_12 p1 p2 p3 o8 o11), ag [iv r13.1, .bool r13.2], []⟩] : List Entry), PureSim Try.prog e.g e.args e.h e.v e.new := by
  intro e he
  simp only [List.mem_cons, List.not_mem_nil, or_false] at he
  rcases he with rfl
  exact PureSim.ak (C72 _ _ _ h14)
 refine TS.dp [⟨72, [ag [iv o8.1, .bool o8.2]], (H34_12 p1 p2 p3 o8 o11), ag [iv r13.1, .bool r13.2], []⟩] hT mixed 19 [56] [0, 1, 2] (st 57 [(56, .bool (!((o21.1 == o8.1) && ((o21.2 == o8.2) && true))))]) (H34_13 p1 p2 p3) ?_ ?_
 · refine QJ.rn (qs (S34_14 p3 o11 o8) (H34_12 p1 p2 p3 o8 o11) [] []) 2 (QJ.o { val := ag [iv r13.1, .bool r13.2], new := [] } (qOf_call (g := 72) (args := [ag [iv o8.1, .bool o8.2]]) (by kernel_rfl) lookC_hit) (QJ.o { val := .bool false } (q_conv (e := !((o11.1 == r13.1) && ((o11.2 == r13.2) && true))) (b := false) (by kernel_rfl) hc15) (QJ.rn (qs (S34_10 p3 o11 o8 r13) (H34_12 p1 p2 p3 o8 o11) [] []) 2 (QJ.o { val := .pointer (some ⟨2, 0 + (Int.toNat 0) * 2, none⟩) } (q_ixS 2 0 ((Int.toNat 0) * 2) (by kernel_rfl) hg16) (QJ.o { val := ag [iv o17.1, .bool o17.2] } (q_nAa Try.prog (H34_12 p1 p2 p3 o8 o11) 50 2 (0 + (Int.toNat 0) * 2) p3 e50 2 50 (Int.toNat 0) (0, false) h18) (QJ.rn (qs (S34_4 p3 o11 o8 r13 o17) (H34_12 p1 p2 p3 o8 o11) [] []) 1 (QJ.o { val := .bool false } (q_conv (e := !((o17.1 == o11.1) && ((o17.2 == o11.2) && true))) (b := false) (by kernel_rfl) hc19) (QJ.rn (qs (st 57 [(2, sv 2 p3.length ANY), (10, pt 5 0), (11, pt 6 0), (36, ag [iv o11.1, .bool o11.2]), (37, ag [iv o8.1, .bool o8.2]), (38, ag [iv r13.1, .bool r13.2]), (39, .bool false), (40, .bool false), (41, sv 2 p3.length ANY), (42, .pointer (some ⟨2, 0 + (Int.toNat 0) * 2, none⟩)), (43, ag [iv o17.1, .bool o17.2]), (44, ag [iv o11.1, .bool o11.2]), (45, .bool false), (46, .bool false), (47, .bool false), (48, sv 2 p3.length ANY), (49, sv 2 p3.length ANY), (50, iv (p3.length : Int)), (51, iv (w64 ((p3.length : Int) - 1)))]) (H34_12 p1 p2 p3 o8 o11) [] []) 6 ?_))))))))
   exact QJ.o { val := .pointer (some ⟨2, 0 + (Int.toNat (w64 ((p3.length : Int) - 1))) * 2, none⟩) } (q_ixS 2 0 ((Int.toNat (w64 ((p3.length : Int) - 1))) * 2) (by kernel_rfl) hg20) (QJ.o { val := ag [iv o21.1, .bool o21.2] } (q_nAa Try.prog (H34_12 p1 p2 p3 o8 o11) 50 2 (0 + (Int.toNat (w64 ((p3.length : Int) - 1))) * 2) p3 e50 2 50 (Int.toNat (w64 ((p3.length : Int) - 1))) (0, false) h22) (QJ.rn (qs (st 57 [(2, sv 2 p3.length ANY), (10, pt 5 0), (11, pt 6 0), (36, ag [iv o11.1, .bool o11.2]), (37, ag [iv o8.1, .bool o8.2]), (38, ag [iv r13.1, .bool r13.2]), (39, .bool false), (40, .bool false), (41, sv 2 p3.length ANY), (42, .pointer (some ⟨2, 0 + (Int.toNat 0) * 2, none⟩)), (43, ag [iv o17.1, .bool o17.2]), (44, ag [iv o11.1, .bool o11.2]), (45, .bool false), (46, .bool false), (47, .bool false), (48, sv 2 p3.length ANY), (49, sv 2 p3.length ANY), (50, iv (p3.length : Int)), (51, iv (w64 ((p3.length : Int) - 1))), (52, .pointer (some ⟨2, 0 + (Int.toNat (w64 ((p3.length : Int) - 1))) * 2, none⟩)), (53, ag [iv o21.1, .bool o21.2]), (54, ag [iv o8.1, .bool o8.2])]) (H34_12 p1 p2 p3 o8 o11) [] []) 1 (QJ.dn ⟨rfl, SJ.la⟩)))
 exact hK
theorem C34 (p0 : Int) (p1 : (List ((Int × Bool) × (Int × Bool)))) (p2 : (List (Int × Bool))) (p3 : (List (Int × Bool))) (r : Int) (hF : F34 p0 p1 p2 p3 = some r) : PureSim Try.prog 34 [ag [iv p0, sv 0 p1.length ANY], sv 1 p2.length ANY, sv 2 p3.length ANY] [ab 86 e86 p1, ab 50 e50 p2, ab 50 e50 p3] (V34 3 r) (N34 3 r) :=
 PureSim.of_Fin Try.func34 (c := c34) (by kernel_rfl) (by kernel_rfl) 3 rfl [0, 1, 2] [0, 1, 2] (by kernel_rfl) (B34 p0 p1 p2 p3 r hF)
end
end Go.Proofs.Ytiaippkjgmccoaa
