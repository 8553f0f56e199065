/- What functions of the program compute, and that they do. -/
import Derived.Test.YtenjelagfbceeaaG5a
set_option linter.unusedVariables false
set_option linter.unusedSimpArgs false
set_option maxRecDepth 100000
set_option maxHeartbeats 4000000
namespace Go.Proofs.Ytenjelagfbceeaa
open Go Go.Cl
-- agonic/agonicref06.Verify
noncomputable def c33 : Code := Try.f33.code
def S33_0 (r1 : ((Int × Int) × Int)) (p6 : Int) (p7 : Int) : CAct := (st 65 [(5, pt 0 0), (6, pt 1 0), (7, pt 2 0), (8, pt 3 0), (9, pt 4 0), (12, iv r1.2), (25, .bool true), (29, .bool false), (30, ag [iv p6, iv p7])])
def H33_1 (p0 : Int) (p1 : Int) (p2 : Int) (p3 : Int) (p4 : Int) (p5 : Int) (p6 : Int) (p7 : Int) (p8 : Int) (p9 : Int) (p10 : Int) (p11 : Int) : List Blk := [cl 30 [iv p0, iv p1, iv p2, iv p3], cl 41 [iv p4, iv p5], cl 41 [iv p6, iv p7], cl 28 [iv p8, iv p9], cl 41 [iv p10, iv p11], .dead]
def S33_2 (r1 : ((Int × Int) × Int)) (p4 : Int) (p5 : Int) : CAct := (st 65 [(5, pt 0 0), (6, pt 1 0), (7, pt 2 0), (8, pt 3 0), (9, pt 4 0), (12, iv r1.2), (25, .bool true), (26, ag [iv p4, iv p5])])
def H33_3 (p0 : Int) (p1 : Int) (p2 : Int) (p3 : Int) (p4 : Int) (p5 : Int) (p6 : Int) (p7 : Int) (p8 : Int) (p9 : Int) (p10 : Int) (p11 : Int) : List Blk := [cl 30 [iv p0, iv p1, iv p2, iv p3], cl 41 [iv p4, iv p5], cl 41 [iv p6, iv p7], cl 28 [iv p8, iv p9], cl 41 [iv p10, iv p11]]
def S33_4 (r1 : ((Int × Int) × Int)) : CAct := (st 65 [(5, pt 0 0), (6, pt 1 0), (7, pt 2 0), (8, pt 3 0), (9, pt 4 0), (12, iv r1.2), (24, .bool true)])
def S33_5 (m11 : Int) : CAct := (st 65 [(5, pt 0 0), (6, pt 1 0), (7, pt 2 0), (8, pt 3 0), (9, pt 4 0), (12, iv m11), (36, .bool true)])
def S33_6 (r1 : ((Int × Int) × Int)) : CAct := (st 65 [(5, pt 0 0), (6, pt 1 0), (7, pt 2 0), (8, pt 3 0), (9, pt 4 0), (12, iv r1.2), (23, iv r1.2)])
def S33_7 (m11 : Int) : CAct := (st 65 [(5, pt 0 0), (6, pt 1 0), (7, pt 2 0), (8, pt 3 0), (9, pt 4 0), (12, iv m11), (35, iv m11)])
def H33_8 (p0 : Int) (p1 : Int) (p2 : Int) (p3 : Int) (p8 : Int) (p9 : Int) (p10 : Int) (p11 : Int) : List Blk := [cl 30 [iv p0, iv p1, iv p2, iv p3], .dead, .dead, cl 28 [iv p8, iv p9], cl 41 [iv p10, iv p11]]
def H33_9 (p10 : Int) (p11 : Int) (r22 : ((List (Int × Int)) × Int)) : List Blk := [cl 41 [iv p10, iv p11], accB 41 (List.length r22.1) (List.flatMap e41 r22.1)]
def F33l0 (p10 : Int) (p11 : Int) (r22 : ((List (Int × Int)) × Int)) (v29 : Int) : Option (Unit ⊕ Unit) :=
    if decide (v29 < (List.length r22.1 : Int)) then
      if (0 : Int) ≤ v29 ∧ v29 < (List.length r22.1 : Int) then
        some (List.getD r22.1 (Int.toNat v29) (0, 0)) >>= fun o37 =>
        if ((o37.1 == p10) && ((o37.2 == p11) && true)) then
          some (.inl ())
        else
          F33l0 p10 p11 r22 (w64 (v29 + 1))
      else none
    else
      some (.inr ())
  partial_fixpoint
def F33 (p0 : Int) (p1 : Int) (p2 : Int) (p3 : Int) (p4 : Int) (p5 : Int) (p6 : Int) (p7 : Int) (p8 : Int) (p9 : Int) (p10 : Int) (p11 : Int) : Option Int :=
  F17 p0 p1 p2 p3 p8 p9 p10 p11 >>= fun r1 =>
  (
    if r1.2 == 0 then
      F56 p4 p5 >>= fun r4 =>
      if r4 then
        F56 p6 p7 >>= fun r6 =>
        if r6 then
          some (false)
        else
          some (true)
      else
        some (true)
    else
      some (false)
  : Option Bool) >>= fun m8 =>
  (
    if m8 then
      some 1
    else
      some r1.2
  : Option Int) >>= fun m11 =>
  (
    if m11 == 0 then
      F27 p0 p1 p2 p3 p4 p5 p6 p7 >>= fun r14 =>
      if r14 then
        some (false)
      else
        some (true)
    else
      some (false)
  : Option Bool) >>= fun m16 =>
  (
    if m16 then
      some 5
    else
      some m11
  : Option Int) >>= fun m19 =>
  if m19 != 0 then
    some m19
  else
    F65 p0 p1 p2 p3 p8 p9 >>= fun r22 =>
    F33l0 p10 p11 r22 0 >>= fun r40 =>
    match r40 with
    | .inl o42 =>
      some 0
    | .inr o43 =>
      some 12
def V33 (b : Nat) (r : Int) : Value := iv r
def N33 (b : Nat) (r : Int) : List Blk := []
def P33l0 (p10 : Int) (p11 : Int) (r22 : ((List (Int × Int)) × Int)) (r : (Unit ⊕ Unit)) : Post := fun e a h => (match r with | .inl q0 => e = .ret ∧ Wk Try.prog 0 0 a h (st 65 [(10, iv 0)]) [] | .inr q0 => e = .exit 0 ∧ Wk Try.prog 0 0 a h (st 65 []) [])
theorem L33l0 (p10 : Int) (p11 : Int) (r22 : ((List (Int × Int)) × Int)) (v29 : Int) (r : (Unit ⊕ Unit)) (hF : F33l0 p10 p11 r22 v29 = some r) : TL Try.prog 0 0 c33.s2.s2.s2.s2.s2.s2.s1.s2.bd.bd (st 65 [(9, pt 0 0), (13, accV 1 (List.length r22.1)), (15, iv v29)]) (H33_9 p10 p11 r22) (P33l0 p10 p11 r22 r) := by
  refine F33l0.partial_correctness p10 p11 r22 (motive := fun v29 r => TL Try.prog 0 0 c33.s2.s2.s2.s2.s2.s2.s1.s2.bd.bd (st 65 [(9, pt 0 0), (13, accV 1 (List.length r22.1)), (15, iv v29)]) (H33_9 p10 p11 r22) (P33l0 p10 p11 r22 r)) ?_ v29 r hF
  clear hF r v29
  intro again ih v29 r hF
  refine TL.round (TS.sq (TS.sq (TS.rg (TI.ra 4 [9, 13, 15, 56] (st 65 [(9, pt 0 0), (13, accV 1 (List.length r22.1)), (15, iv v29), (56, .bool (decide (v29 < (List.length r22.1 : Int))))]) (TI.dn (NX.sq ?_))))))
  refine TS.cd (.tmp 56) (decide (v29 < (List.length r22.1 : Int))) (fun hc35 => ?_) (fun hc35 => ?_)
  · replace hF := of_pos hF hc35
    refine TS.sk (NX.sq (TS.sq (TS.bk 1 (TS.sq ?_))))
    have hX := of_guard hF
    clear hF
    obtain ⟨hg36, hF⟩ := hX
    have hX := of_do hF
    clear hF
    obtain ⟨o37, h38, hF⟩ := hX
    replace h38 := Option.some.inj h38
    refine TS.dp [] (fun e he => by cases he) mixed 5 [9, 13, 15, 64] [0, 1] (st 65 [(9, pt 0 0), (13, accV 1 (List.length r22.1)), (15, iv v29), (64, .bool ((o37.1 == p10) && ((o37.2 == p11) && true)))]) (H33_9 p10 p11 r22) ?_ ?_
    · refine QJ.rn (qs (st 65 [(9, pt 0 0), (13, accV 1 (List.length r22.1)), (15, iv v29), (56, .bool (decide (v29 < (List.length r22.1 : Int)))), (59, accV 1 (List.length r22.1)), (60, iv v29)]) (H33_9 p10 p11 r22) [] []) 2 (QJ.o { val := .pointer (some ⟨1, 0 + (Int.toNat v29) * 2, none⟩) } (q_ixAcc (P := Try.prog) (t := 63) (s := 2) (e := 41) 1 (List.length r22.1) (by kernel_rfl) hg36 (by kernel_rfl) (by kernel_rfl)) ?_)
      exact QJ.o { val := ag [iv o37.1, iv o37.2] } (q_eqv (q_ldA (P := Try.prog) (hp := (H33_9 p10 p11 r22)) (t := 41) (b := 1) (off := 0 + (Int.toNat v29) * 2) (l := r22.1) (enc := e41) (s := 2) (T := 41) (i := Int.toNat v29) (by kernel_rfl) (accB_at (h := (H33_9 p10 p11 r22)) (n := List.length r22.1) (i := Int.toNat v29) (by kernel_rfl) (by first | omega | (simp only [List.length_set, List.length_replicate, List.length_cons, List.length_nil, List.length_append]; omega))) (by kernel_rfl) (by kernel_rfl) (fun _ => rfl) (by omega) (by first | omega | (simp only [List.length_set, List.length_replicate, List.length_cons, List.length_nil, List.length_append]; omega)) (0, 0)) (congrArg (fun (z : (Int × Int)) => ({ val := ag [iv z.1, iv z.2] } : QRes)) h38)) (QJ.rn (qs (st 65 [(9, pt 0 0), (13, accV 1 (List.length r22.1)), (15, iv v29), (56, .bool (decide (v29 < (List.length r22.1 : Int)))), (59, accV 1 (List.length r22.1)), (60, iv v29), (61, .pointer (some ⟨1, 0 + (Int.toNat v29) * 2, none⟩)), (62, ag [iv o37.1, iv o37.2]), (63, ag [iv p10, iv p11])]) (H33_9 p10 p11 r22) [] []) 1 (QJ.dn ⟨rfl, SJ.la⟩))
    refine TS.cd (.tmp 64) ((o37.1 == p10) && ((o37.2 == p11) && true)) (fun hc39 => ?_) (fun hc39 => ?_)
    · replace hF := of_pos hF hc39
      refine TS.sq (TS.rg (TI.rn 1 [10] [] (st 65 [(10, iv 0)]) [.dead, .dead] (TI.dn (NX.sq (TS.rt (NX.bkR (NX.sqR ?_)))))))
      have hF := Option.some.inj hF
      subst hF
      exact Rd.out (e := .ret) (by intro h; cases h) (And.intro rfl (Wk.anew (base := 0) (L := 0) (f := []) (by decide) (by decide) (Nat.le_of_ble_eq_true rfl) rfl (.nil _) (LRn.stx [10] [iv 0] [iv 0] (.cons (.flat (by kernel_rfl)) .nil) (by kernel_rfl) (by kernel_rfl) rfl) rfl rfl))
    · replace hF := of_neg hF hc39
      refine TS.sk (NX.bk (NX.sq (TS.rg (TI.ra 3 [9, 13, 15] (st 65 [(9, pt 0 0), (13, accV 1 (List.length r22.1)), (15, iv (w64 (v29 + 1)))]) (TI.dn ?_)))))
      exact Rd.again (a2 := (st 65 [(9, pt 0 0), (13, accV 1 (List.length r22.1)), (15, iv (w64 (v29 + 1)))])) (h2 := (H33_9 p10 p11 r22)) (Wk.anew (base := 0) (L := 0) (f := [0, 1]) (by decide) (by decide) (Nat.le_of_ble_eq_true rfl) rfl (.cons (At.blk (by kernel_rfl) (RnB.lit (.cons (.flat (by kernel_rfl)) (.cons (.flat (by kernel_rfl)) .nil)))) (.cons (At.acc (by kernel_rfl) rfl (fun _ => rfl)) (.nil _))) (LRn.stx [9, 13, 15] [pt 0 0, accV 1 (List.length r22.1), iv (w64 (v29 + 1))] [pt 0 0, accV 1 (List.length r22.1), iv (w64 (v29 + 1))] (.cons (Rn.ptr _ _ _ (Nat.le_of_ble_eq_true rfl) rfl) (.cons (Rn.acc (Nat.le_of_ble_eq_true rfl) rfl) (.cons (.flat (by kernel_rfl)) .nil))) (by kernel_rfl) (by kernel_rfl) rfl) rfl rfl) (ih (w64 (v29 + 1)) _ hF)
  · replace hF := of_neg hF hc35
    refine TS.ex 0 (NX.sqX ?_)
    have hF := Option.some.inj hF
    subst hF
    exact Rd.out (e := .exit 0) (by intro h; cases h) (And.intro rfl (Wk.anew (base := 0) (L := 0) (f := []) (by decide) (by decide) (Nat.le_of_ble_eq_true rfl) rfl (.nil _) (LRn.stx [] [] [] .nil (by kernel_rfl) (by kernel_rfl) rfl) rfl rfl))
theorem B33 (p0 : Int) (p1 : Int) (p2 : Int) (p3 : Int) (p4 : Int) (p5 : Int) (p6 : Int) (p7 : Int) (p8 : Int) (p9 : Int) (p10 : Int) (p11 : Int) (r : Int) (hF : F33 p0 p1 p2 p3 p4 p5 p6 p7 p8 p9 p10 p11 = some r) : TS Try.prog 0 0 c33 (st 65 [(0, ag [iv p0, iv p1, iv p2, iv p3]), (1, ag [iv p4, iv p5]), (2, ag [iv p6, iv p7]), (3, ag [iv p8, iv p9]), (4, ag [iv p10, iv p11])]) [] (NX Try.prog 0 0 [] (FinP Try.prog Try.f33 0 (V33 0 r) (N33 0 r))) := by
  unfold F33 at hF
  refine TS.sq (TS.rg (TI.rn 6 [5, 6, 7, 8, 9] [0, 1, 2, 3, 4] (st 65 [(5, pt 0 0), (6, pt 1 0), (7, pt 2 0), (8, pt 3 0), (9, pt 4 0)]) (H33_3 p0 p1 p2 p3 p4 p5 p6 p7 p8 p9 p10 p11) (TI.dn (NX.sq (TS.sq ?_)))))
  have hX := of_do hF
  clear hF
  obtain ⟨r1, h2, hF⟩ := hX
  refine TS.rg (TI.ra 3 [5, 6, 7, 8, 9, 17, 18, 19] (st 65 [(5, pt 0 0), (6, pt 1 0), (7, pt 2 0), (8, pt 3 0), (9, pt 4 0), (17, ag [iv p0, iv p1, iv p2, iv p3]), (18, ag [iv p8, iv p9]), (19, ag [iv p10, iv p11])]) (TI.cf (C17 _ _ _ _ _ _ _ _ _ h2) (TI.rn 6 [5, 6, 7, 8, 9, 12] [0, 1, 2, 3, 4] (st 65 [(5, pt 0 0), (6, pt 1 0), (7, pt 2 0), (8, pt 3 0), (9, pt 4 0), (12, iv r1.2)]) (H33_1 p0 p1 p2 p3 p4 p5 p6 p7 p8 p9 p10 p11) (TI.dn (NX.sq (TS.sq (TS.sq ?_)))))))
  have hX := of_do hF
  clear hF
  obtain ⟨m8, hm45, hF⟩ := hX
  have hK : NX Try.prog 0 0 [.sq c33.s2.s2.s1.s2, .sq c33.s2.s2.s2] (FinP Try.prog Try.f33 0 (V33 0 r) (N33 0 r)) .normal (st 65 [(5, pt 0 0), (6, pt 1 0), (7, pt 2 0), (8, pt 3 0), (9, pt 4 0), (12, iv r1.2), (34, .bool m8)]) (H33_1 p0 p1 p2 p3 p4 p5 p6 p7 p8 p9 p10 p11) := by
    refine NX.sq ?_
    have hX := of_do hF
    clear hF
    obtain ⟨m11, hm12, hF⟩ := hX
    have hK : NX Try.prog 0 0 [.sq c33.s2.s2.s2] (FinP Try.prog Try.f33 0 (V33 0 r) (N33 0 r)) .normal (st 65 [(5, pt 0 0), (6, pt 1 0), (7, pt 2 0), (8, pt 3 0), (9, pt 4 0), (12, iv m11)]) (H33_3 p0 p1 p2 p3 p4 p5 p6 p7 p8 p9 p10 p11) := by
      refine NX.sq (TS.sq (TS.sq ?_))
      have hX := of_do hF
      clear hF
      obtain ⟨m16, hm44, hF⟩ := hX
      have hK : NX Try.prog 0 0 [.sq c33.s2.s2.s2.s1.s2, .sq c33.s2.s2.s2.s2] (FinP Try.prog Try.f33 0 (V33 0 r) (N33 0 r)) .normal (st 65 [(5, pt 0 0), (8, pt 3 0), (9, pt 4 0), (12, iv m11), (43, .bool m16)]) (H33_8 p0 p1 p2 p3 p8 p9 p10 p11) := by
        refine NX.sq ?_
        have hX := of_do hF
        clear hF
        obtain ⟨m19, hm20, hF⟩ := hX
        have hK : NX Try.prog 0 0 [.sq c33.s2.s2.s2.s2] (FinP Try.prog Try.f33 0 (V33 0 r) (N33 0 r)) .normal (st 65 [(5, pt 0 0), (8, pt 1 0), (9, pt 2 0), (12, iv m19)]) [cl 30 [iv p0, iv p1, iv p2, iv p3], cl 28 [iv p8, iv p9], cl 41 [iv p10, iv p11]] := by
          refine NX.sq (TS.sq (TS.sq (TS.rg (TI.ra 2 [5, 8, 9, 12, 45] (st 65 [(5, pt 0 0), (8, pt 1 0), (9, pt 2 0), (12, iv m19), (45, .bool (m19 != 0))]) (TI.dn (NX.sq ?_))))))
          refine TS.cd (.tmp 45) (m19 != 0) (fun hc21 => ?_) (fun hc21 => ?_)
          · replace hF := of_pos hF hc21
            refine TS.sq (TS.rg (TI.rn 2 [10] [] (st 65 [(10, iv m19)]) [.dead, .dead, .dead] (TI.dn (NX.sq (TS.rt (NX.sqR ?_))))))
            have hF := Option.some.inj hF
            subst hF
            exact ⟨.inr rfl, rfl, iv m19, by kernel_rfl, WkV.flat0 (by kernel_rfl) (Nat.le_of_ble_eq_true rfl)⟩
          · replace hF := of_neg hF hc21
            refine TS.sk (NX.sq (TS.sq ?_))
            have hX := of_do hF
            clear hF
            obtain ⟨r22, h23, hF⟩ := hX
            refine TS.rg (TI.rn 2 [9, 48, 49] [2] (st 65 [(9, pt 2 0), (48, ag [iv p0, iv p1, iv p2, iv p3]), (49, ag [iv p8, iv p9])]) [.dead, .dead, cl 41 [iv p10, iv p11]] (TI.cp 65 [ag [iv p0, iv p1, iv p2, iv p3], ag [iv p8, iv p9]] (.tuple ⟨[accV 3 (List.length r22.1), iv r22.2]⟩) [accB 41 (List.length r22.1) (List.flatMap e41 r22.1)] (PureSim.ren (hc := []) (fun i => List.getD [] i (0, 0)) (C65 _ _ _ _ _ _ _ h23) (.nil _) (.cons (.flat (by kernel_rfl)) (.cons (.flat (by kernel_rfl)) .nil)) (Rn.tuple' (.cons (Rn.acc (i' := 3) (Nat.le_of_ble_eq_true rfl) rfl) (.cons (.flat (by kernel_rfl)) .nil))) (newflat_cons (accB_flat (fun _ => rfl)) newflat_nil)) (TI.rn 5 [9, 13] [2, 3] (st 65 [(9, pt 2 0), (13, accV 3 (List.length r22.1))]) [.dead, .dead, cl 41 [iv p10, iv p11], accB 41 (List.length r22.1) (List.flatMap e41 r22.1)] (TI.dn (NX.sq (TS.sq (TS.sq (TS.rg ?_))))))))
            refine TI.ra 1 [9, 13, 15] (st 65 [(9, pt 2 0), (13, accV 3 (List.length r22.1)), (15, iv 0)]) (TI.dn (NX.sq (TS.bk 0 ?_)))
            have hX := of_do hF
            clear hF
            obtain ⟨r40, h41, hF⟩ := hX
            refine TS.lp (TL.weak (a2 := (st 65 [(9, pt 0 0), (13, accV 1 (List.length r22.1)), (15, iv 0)])) (h2 := (H33_9 p10 p11 r22)) (Wk.anew (base := 0) (L := 0) (f := [2, 3]) (by decide) (by decide) (Nat.le_of_ble_eq_true rfl) rfl (.cons (At.blk (by kernel_rfl) (RnB.lit (.cons (.flat (by kernel_rfl)) (.cons (.flat (by kernel_rfl)) .nil)))) (.cons (At.acc (by kernel_rfl) rfl (fun _ => rfl)) (.nil _))) (LRn.stx [9, 13, 15] [pt 0 0, accV 1 (List.length r22.1), iv 0] [pt 2 0, accV 3 (List.length r22.1), iv 0] (.cons (Rn.ptr _ _ _ (Nat.le_of_ble_eq_true rfl) rfl) (.cons (Rn.acc (Nat.le_of_ble_eq_true rfl) rfl) (.cons (.flat (by kernel_rfl)) .nil))) (by kernel_rfl) (by kernel_rfl) rfl) rfl rfl) (TL.post (L33l0 p10 p11 r22 0 r40 h41) ?_))
            rintro e a1 h1 hp
            rcases r40 with o42 | o43
            · skip
              obtain ⟨rfl, hw⟩ := hp
              refine ⟨(st 65 [(10, iv 0)]), [], (NX.bkR (NX.sqR ?_)), hw⟩
              have hF := Option.some.inj hF
              subst hF
              exact ⟨.inr rfl, rfl, iv 0, by kernel_rfl, WkV.flat0 (by kernel_rfl) (Nat.le_of_ble_eq_true rfl)⟩
            · skip
              obtain ⟨rfl, hw⟩ := hp
              refine ⟨(st 65 []), [], (NX.bkX (NX.sq (TS.sq (TS.rg (TI.ra 1 [10] (st 65 [(10, iv 12)]) (TI.dn (NX.sq (TS.rt ?_)))))))), hw⟩
              have hF := Option.some.inj hF
              subst hF
              exact ⟨.inr rfl, rfl, iv 12, by kernel_rfl, WkV.flat0 (by kernel_rfl) (Nat.le_of_ble_eq_true rfl)⟩
        clear hF
        have hF := hm20
        clear hm20
        refine TS.start ?_
        cases m16 with
        | true =>
          replace hF := of_pos hF rfl
          refine TS.cdT (.tmp 43) (TS.rg (TI.ra 1 [5, 8, 9, 12] (st 65 [(5, pt 0 0), (8, pt 3 0), (9, pt 4 0), (12, iv 5)]) (TI.dn ?_)))
          have hF := Option.some.inj hF
          subst hF
          exact TS.weak (Wk.anew (base := 0) (L := 0) (f := [0, 3, 4]) (by decide) (by decide) (Nat.le_of_ble_eq_true rfl) rfl (.cons (At.blk (by kernel_rfl) (RnB.lit (.cons (.flat (by kernel_rfl)) (.cons (.flat (by kernel_rfl)) (.cons (.flat (by kernel_rfl)) (.cons (.flat (by kernel_rfl)) .nil)))))) (.cons (At.blk (by kernel_rfl) (RnB.lit (.cons (.flat (by kernel_rfl)) (.cons (.flat (by kernel_rfl)) .nil)))) (.cons (At.blk (by kernel_rfl) (RnB.lit (.cons (.flat (by kernel_rfl)) (.cons (.flat (by kernel_rfl)) .nil)))) (.nil _)))) (LRn.stx [5, 8, 9, 12] [pt 0 0, pt 1 0, pt 2 0, iv 5] [pt 0 0, pt 3 0, pt 4 0, iv 5] (.cons (Rn.ptr _ _ _ (Nat.le_of_ble_eq_true rfl) rfl) (.cons (Rn.ptr _ _ _ (Nat.le_of_ble_eq_true rfl) rfl) (.cons (Rn.ptr _ _ _ (Nat.le_of_ble_eq_true rfl) rfl) (.cons (.flat (by kernel_rfl)) .nil)))) (by kernel_rfl) (by kernel_rfl) rfl) rfl rfl) hK
        | false =>
          replace hF := of_neg hF rfl
          refine TS.cdF (.tmp 43) (TS.sk ?_)
          have hF := Option.some.inj hF
          subst hF
          exact TS.weak (Wk.anew (base := 0) (L := 0) (f := [0, 3, 4]) (by decide) (by decide) (Nat.le_of_ble_eq_true rfl) rfl (.cons (At.blk (by kernel_rfl) (RnB.lit (.cons (.flat (by kernel_rfl)) (.cons (.flat (by kernel_rfl)) (.cons (.flat (by kernel_rfl)) (.cons (.flat (by kernel_rfl)) .nil)))))) (.cons (At.blk (by kernel_rfl) (RnB.lit (.cons (.flat (by kernel_rfl)) (.cons (.flat (by kernel_rfl)) .nil)))) (.cons (At.blk (by kernel_rfl) (RnB.lit (.cons (.flat (by kernel_rfl)) (.cons (.flat (by kernel_rfl)) .nil)))) (.nil _)))) (LRn.stx [5, 8, 9, 12] [pt 0 0, pt 1 0, pt 2 0, iv m11] [pt 0 0, pt 3 0, pt 4 0, iv m11] (.cons (Rn.ptr _ _ _ (Nat.le_of_ble_eq_true rfl) rfl) (.cons (Rn.ptr _ _ _ (Nat.le_of_ble_eq_true rfl) rfl) (.cons (Rn.ptr _ _ _ (Nat.le_of_ble_eq_true rfl) rfl) (.cons (.flat (by kernel_rfl)) .nil)))) (by kernel_rfl) (by kernel_rfl) rfl) rfl rfl) hK
      rcases Bool.eq_false_or_eq_true (m11 == 0) with hc13 | hc13
      · replace hm44 := of_pos hm44 hc13
        have hX := of_do hm44
        clear hm44
        obtain ⟨r14, h15, hm44⟩ := hX
        cases r14 with
        | true =>
          replace hm44 := of_pos hm44 rfl
          have hm44 := Option.some.inj hm44
          subst hm44
          exact TS.rg (TI.ra 1 [5, 6, 7, 8, 9, 12, 35] (S33_7 m11) (TI.o { val := .bool true } (q_conv (e := m11 == 0) (b := true) (by kernel_rfl) hc13) [5, 6, 7, 8, 9, 12, 36] [0, 1, 2, 3, 4] (S33_5 m11) (H33_3 p0 p1 p2 p3 p4 p5 p6 p7 p8 p9 p10 p11) (TI.rn 4 [5, 8, 9, 12, 37, 38, 39, 40] [0, 3, 4] (st 65 [(5, pt 0 0), (8, pt 3 0), (9, pt 4 0), (12, iv m11), (37, .bool true), (38, ag [iv p0, iv p1, iv p2, iv p3]), (39, ag [iv p4, iv p5]), (40, ag [iv p6, iv p7])]) (H33_8 p0 p1 p2 p3 p8 p9 p10 p11) (TI.cf (C27 _ _ _ _ _ _ _ _ _ h15) (TI.ra 2 [5, 8, 9, 12, 43] (st 65 [(5, pt 0 0), (8, pt 3 0), (9, pt 4 0), (12, iv m11), (43, .bool false)]) (TI.dn hK))))))
        | false =>
          replace hm44 := of_neg hm44 rfl
          have hm44 := Option.some.inj hm44
          subst hm44
          exact TS.rg (TI.ra 1 [5, 6, 7, 8, 9, 12, 35] (S33_7 m11) (TI.o { val := .bool true } (q_conv (e := m11 == 0) (b := true) (by kernel_rfl) hc13) [5, 6, 7, 8, 9, 12, 36] [0, 1, 2, 3, 4] (S33_5 m11) (H33_3 p0 p1 p2 p3 p4 p5 p6 p7 p8 p9 p10 p11) (TI.rn 4 [5, 8, 9, 12, 37, 38, 39, 40] [0, 3, 4] (st 65 [(5, pt 0 0), (8, pt 3 0), (9, pt 4 0), (12, iv m11), (37, .bool true), (38, ag [iv p0, iv p1, iv p2, iv p3]), (39, ag [iv p4, iv p5]), (40, ag [iv p6, iv p7])]) (H33_8 p0 p1 p2 p3 p8 p9 p10 p11) (TI.cf (C27 _ _ _ _ _ _ _ _ _ h15) (TI.ra 2 [5, 8, 9, 12, 43] (st 65 [(5, pt 0 0), (8, pt 3 0), (9, pt 4 0), (12, iv m11), (43, .bool true)]) (TI.dn hK))))))
      · replace hm44 := of_neg hm44 hc13
        have hm44 := Option.some.inj hm44
        subst hm44
        exact TS.rg (TI.ra 1 [5, 6, 7, 8, 9, 12, 35] (S33_7 m11) (TI.o { val := .bool false } (q_conv (e := m11 == 0) (b := false) (by kernel_rfl) hc13) [5, 6, 7, 8, 9, 12, 36] [0, 1, 2, 3, 4] (st 65 [(5, pt 0 0), (6, pt 1 0), (7, pt 2 0), (8, pt 3 0), (9, pt 4 0), (12, iv m11), (36, .bool false)]) (H33_3 p0 p1 p2 p3 p4 p5 p6 p7 p8 p9 p10 p11) (TI.rn 7 [5, 8, 9, 12, 43] [0, 3, 4] (st 65 [(5, pt 0 0), (8, pt 3 0), (9, pt 4 0), (12, iv m11), (43, .bool false)]) (H33_8 p0 p1 p2 p3 p8 p9 p10 p11) (TI.dn hK))))
    clear hF
    have hF := hm12
    clear hm12
    refine TS.start ?_
    cases m8 with
    | true =>
      replace hF := of_pos hF rfl
      refine TS.cdT (.tmp 34) (TS.rg (TI.ra 1 [5, 6, 7, 8, 9, 12] (st 65 [(5, pt 0 0), (6, pt 1 0), (7, pt 2 0), (8, pt 3 0), (9, pt 4 0), (12, iv 1)]) (TI.dn ?_)))
      have hF := Option.some.inj hF
      subst hF
      exact TS.weak (Wk.anew (base := 0) (L := 0) (f := [0, 1, 2, 3, 4]) (by decide) (by decide) (Nat.le_of_ble_eq_true rfl) rfl (.cons (At.blk (by kernel_rfl) (RnB.lit (.cons (.flat (by kernel_rfl)) (.cons (.flat (by kernel_rfl)) (.cons (.flat (by kernel_rfl)) (.cons (.flat (by kernel_rfl)) .nil)))))) (.cons (At.blk (by kernel_rfl) (RnB.lit (.cons (.flat (by kernel_rfl)) (.cons (.flat (by kernel_rfl)) .nil)))) (.cons (At.blk (by kernel_rfl) (RnB.lit (.cons (.flat (by kernel_rfl)) (.cons (.flat (by kernel_rfl)) .nil)))) (.cons (At.blk (by kernel_rfl) (RnB.lit (.cons (.flat (by kernel_rfl)) (.cons (.flat (by kernel_rfl)) .nil)))) (.cons (At.blk (by kernel_rfl) (RnB.lit (.cons (.flat (by kernel_rfl)) (.cons (.flat (by kernel_rfl)) .nil)))) (.nil _)))))) (LRn.stx [5, 6, 7, 8, 9, 12] [pt 0 0, pt 1 0, pt 2 0, pt 3 0, pt 4 0, iv 1] [pt 0 0, pt 1 0, pt 2 0, pt 3 0, pt 4 0, iv 1] (.cons (Rn.ptr _ _ _ (Nat.le_of_ble_eq_true rfl) rfl) (.cons (Rn.ptr _ _ _ (Nat.le_of_ble_eq_true rfl) rfl) (.cons (Rn.ptr _ _ _ (Nat.le_of_ble_eq_true rfl) rfl) (.cons (Rn.ptr _ _ _ (Nat.le_of_ble_eq_true rfl) rfl) (.cons (Rn.ptr _ _ _ (Nat.le_of_ble_eq_true rfl) rfl) (.cons (.flat (by kernel_rfl)) .nil)))))) (by kernel_rfl) (by kernel_rfl) rfl) rfl rfl) hK
    | false =>
      replace hF := of_neg hF rfl
      refine TS.cdF (.tmp 34) (TS.sk ?_)
      have hF := Option.some.inj hF
      subst hF
      exact TS.weak (Wk.anew (base := 0) (L := 0) (f := [0, 1, 2, 3, 4]) (by decide) (by decide) (Nat.le_of_ble_eq_true rfl) rfl (.cons (At.blk (by kernel_rfl) (RnB.lit (.cons (.flat (by kernel_rfl)) (.cons (.flat (by kernel_rfl)) (.cons (.flat (by kernel_rfl)) (.cons (.flat (by kernel_rfl)) .nil)))))) (.cons (At.blk (by kernel_rfl) (RnB.lit (.cons (.flat (by kernel_rfl)) (.cons (.flat (by kernel_rfl)) .nil)))) (.cons (At.blk (by kernel_rfl) (RnB.lit (.cons (.flat (by kernel_rfl)) (.cons (.flat (by kernel_rfl)) .nil)))) (.cons (At.blk (by kernel_rfl) (RnB.lit (.cons (.flat (by kernel_rfl)) (.cons (.flat (by kernel_rfl)) .nil)))) (.cons (At.blk (by kernel_rfl) (RnB.lit (.cons (.flat (by kernel_rfl)) (.cons (.flat (by kernel_rfl)) .nil)))) (.nil _)))))) (LRn.stx [5, 6, 7, 8, 9, 12] [pt 0 0, pt 1 0, pt 2 0, pt 3 0, pt 4 0, iv r1.2] [pt 0 0, pt 1 0, pt 2 0, pt 3 0, pt 4 0, iv r1.2] (.cons (Rn.ptr _ _ _ (Nat.le_of_ble_eq_true rfl) rfl) (.cons (Rn.ptr _ _ _ (Nat.le_of_ble_eq_true rfl) rfl) (.cons (Rn.ptr _ _ _ (Nat.le_of_ble_eq_true rfl) rfl) (.cons (Rn.ptr _ _ _ (Nat.le_of_ble_eq_true rfl) rfl) (.cons (Rn.ptr _ _ _ (Nat.le_of_ble_eq_true rfl) rfl) (.cons (.flat (by kernel_rfl)) .nil)))))) (by kernel_rfl) (by kernel_rfl) rfl) rfl rfl) hK
  rcases Bool.eq_false_or_eq_true (r1.2 == 0) with hc3 | hc3
  · replace hm45 := of_pos hm45 hc3
    have hX := of_do hm45
    clear hm45
    obtain ⟨r4, h5, hm45⟩ := hX
    cases r4 with
    | true =>
      replace hm45 := of_pos hm45 rfl
      have hX := of_do hm45
      clear hm45
      obtain ⟨r6, h7, hm45⟩ := hX
      cases r6 with
      | true =>
        replace hm45 := of_pos hm45 rfl
        have hm45 := Option.some.inj hm45
        subst hm45
        refine TS.rg (TI.ra 1 [5, 6, 7, 8, 9, 12, 23] (S33_6 r1) (TI.o { val := .bool true } (q_conv (e := r1.2 == 0) (b := true) (by kernel_rfl) hc3) [5, 6, 7, 8, 9, 12, 24] [0, 1, 2, 3, 4] (S33_4 r1) (H33_1 p0 p1 p2 p3 p4 p5 p6 p7 p8 p9 p10 p11) (TI.ra 2 [5, 6, 7, 8, 9, 12, 25, 26] (S33_2 r1 p4 p5) (TI.cf (C56 _ _ _ h5) (TI.ra 3 [5, 6, 7, 8, 9, 12, 25, 29, 30] (S33_0 r1 p6 p7) (TI.cf (C56 _ _ _ h7) (TI.ra 3 [5, 6, 7, 8, 9, 12, 34] (st 65 [(5, pt 0 0), (6, pt 1 0), (7, pt 2 0), (8, pt 3 0), (9, pt 4 0), (12, iv r1.2), (34, .bool false)]) (TI.dn ?_))))))))
        exact hK
      | false =>
        replace hm45 := of_neg hm45 rfl
        have hm45 := Option.some.inj hm45
        subst hm45
        refine TS.rg (TI.ra 1 [5, 6, 7, 8, 9, 12, 23] (S33_6 r1) (TI.o { val := .bool true } (q_conv (e := r1.2 == 0) (b := true) (by kernel_rfl) hc3) [5, 6, 7, 8, 9, 12, 24] [0, 1, 2, 3, 4] (S33_4 r1) (H33_1 p0 p1 p2 p3 p4 p5 p6 p7 p8 p9 p10 p11) (TI.ra 2 [5, 6, 7, 8, 9, 12, 25, 26] (S33_2 r1 p4 p5) (TI.cf (C56 _ _ _ h5) (TI.ra 3 [5, 6, 7, 8, 9, 12, 25, 29, 30] (S33_0 r1 p6 p7) (TI.cf (C56 _ _ _ h7) (TI.ra 3 [5, 6, 7, 8, 9, 12, 34] (st 65 [(5, pt 0 0), (6, pt 1 0), (7, pt 2 0), (8, pt 3 0), (9, pt 4 0), (12, iv r1.2), (34, .bool true)]) (TI.dn ?_))))))))
        exact hK
    | false =>
      replace hm45 := of_neg hm45 rfl
      have hm45 := Option.some.inj hm45
      subst hm45
      exact TS.rg (TI.ra 1 [5, 6, 7, 8, 9, 12, 23] (S33_6 r1) (TI.o { val := .bool true } (q_conv (e := r1.2 == 0) (b := true) (by kernel_rfl) hc3) [5, 6, 7, 8, 9, 12, 24] [0, 1, 2, 3, 4] (S33_4 r1) (H33_1 p0 p1 p2 p3 p4 p5 p6 p7 p8 p9 p10 p11) (TI.ra 2 [5, 6, 7, 8, 9, 12, 25, 26] (S33_2 r1 p4 p5) (TI.cf (C56 _ _ _ h5) (TI.ra 7 [5, 6, 7, 8, 9, 12, 34] (st 65 [(5, pt 0 0), (6, pt 1 0), (7, pt 2 0), (8, pt 3 0), (9, pt 4 0), (12, iv r1.2), (34, .bool true)]) (TI.dn hK))))))
  · replace hm45 := of_neg hm45 hc3
    have hm45 := Option.some.inj hm45
    subst hm45
    exact TS.rg (TI.ra 1 [5, 6, 7, 8, 9, 12, 23] (S33_6 r1) (TI.o { val := .bool false } (q_conv (e := r1.2 == 0) (b := false) (by kernel_rfl) hc3) [5, 6, 7, 8, 9, 12, 24] [0, 1, 2, 3, 4] (st 65 [(5, pt 0 0), (6, pt 1 0), (7, pt 2 0), (8, pt 3 0), (9, pt 4 0), (12, iv r1.2), (24, .bool false)]) (H33_1 p0 p1 p2 p3 p4 p5 p6 p7 p8 p9 p10 p11) (TI.ra 10 [5, 6, 7, 8, 9, 12, 34] (st 65 [(5, pt 0 0), (6, pt 1 0), (7, pt 2 0), (8, pt 3 0), (9, pt 4 0), (12, iv r1.2), (34, .bool false)]) (TI.dn hK))))
theorem C33 (p0 : Int) (p1 : Int) (p2 : Int) (p3 : Int) (p4 : Int) (p5 : Int) (p6 : Int) (p7 : Int) (p8 : Int) (p9 : Int) (p10 : Int) (p11 : Int) (r : Int) (hF : F33 p0 p1 p2 p3 p4 p5 p6 p7 p8 p9 p10 p11 = some r) : PureSim Try.prog 33 [ag [iv p0, iv p1, iv p2, iv p3], ag [iv p4, iv p5], ag [iv p6, iv p7], ag [iv p8, iv p9], ag [iv p10, iv p11]] [] (V33 0 r) (N33 0 r) :=
  PureSim.of_Fin Try.func33 (c := c33) (by kernel_rfl) (by kernel_rfl) 0 rfl [0, 1, 2, 3, 4] [] (by kernel_rfl) (B33 p0 p1 p2 p3 p4 p5 p6 p7 p8 p9 p10 p11 r hF)

-- agonic/agoniclaw06.MagnetBests
noncomputable def c5 : Code := Try.f5.code
def S5_0 (r5 : ((Int × Int) × (Int × Int) × Int)) (r7 : ((Int × Int) × (Int × Int) × Int)) (r9 : ((List (Int × Int)) × Int)) (r11 : ((List (Int × Int)) × Int)) (r13 : (Int × Int)) (r16 : (Int × Int)) : CAct := (st 116 [(5, pt 0 0), (6, pt 1 0), (7, pt 2 0), (8, pt 3 0), (9, pt 4 0), (11, pt 5 0), (12, pt 6 0), (13, pt 7 0), (14, pt 8 0), (15, iv r5.2.2), (16, pt 9 0), (17, pt 10 0), (18, iv r7.2.2), (19, accV 11 (List.length r9.1)), (20, iv r9.2), (21, accV 12 (List.length r11.1)), (22, iv r11.2), (54, ag [iv r5.1.1, iv r5.1.2]), (55, ag [iv r13.1, iv r13.2]), (56, ag [iv r7.1.1, iv r7.1.2]), (57, .bool false), (58, .bool false), (59, ag [iv r5.2.1.1, iv r5.2.1.2]), (60, ag [iv r16.1, iv r16.2]), (61, ag [iv r7.2.1.1, iv r7.2.1.2]), (62, .bool false), (63, .bool false), (64, .bool false), (65, iv r5.2.2), (66, iv r7.2.2), (67, .bool false), (68, .bool false), (69, .bool false), (70, iv r9.2), (71, iv r11.2)])
def S5_1 (r5 : ((Int × Int) × (Int × Int) × Int)) (r7 : ((Int × Int) × (Int × Int) × Int)) (r9 : ((List (Int × Int)) × Int)) (r11 : ((List (Int × Int)) × Int)) (r13 : (Int × Int)) (r16 : (Int × Int)) : CAct := (st 116 [(5, pt 0 0), (6, pt 1 0), (7, pt 2 0), (8, pt 3 0), (9, pt 4 0), (11, pt 5 0), (12, pt 6 0), (13, pt 7 0), (14, pt 8 0), (15, iv r5.2.2), (16, pt 9 0), (17, pt 10 0), (18, iv r7.2.2), (19, accV 11 (List.length r9.1)), (20, iv r9.2), (21, accV 12 (List.length r11.1)), (22, iv r11.2), (54, ag [iv r5.1.1, iv r5.1.2]), (55, ag [iv r13.1, iv r13.2]), (56, ag [iv r7.1.1, iv r7.1.2]), (57, .bool false), (58, .bool false), (59, ag [iv r5.2.1.1, iv r5.2.1.2]), (60, ag [iv r16.1, iv r16.2]), (61, ag [iv r7.2.1.1, iv r7.2.1.2]), (62, .bool false), (63, .bool false), (64, .bool false), (65, iv r5.2.2), (66, iv r7.2.2)])
def S5_2 (r5 : ((Int × Int) × (Int × Int) × Int)) (r7 : ((Int × Int) × (Int × Int) × Int)) (r9 : ((List (Int × Int)) × Int)) (r11 : ((List (Int × Int)) × Int)) (r13 : (Int × Int)) (r16 : (Int × Int)) : CAct := (st 116 [(5, pt 0 0), (6, pt 1 0), (7, pt 2 0), (8, pt 3 0), (9, pt 4 0), (11, pt 5 0), (12, pt 6 0), (13, pt 7 0), (14, pt 8 0), (15, iv r5.2.2), (16, pt 9 0), (17, pt 10 0), (18, iv r7.2.2), (19, accV 11 (List.length r9.1)), (20, iv r9.2), (21, accV 12 (List.length r11.1)), (22, iv r11.2), (54, ag [iv r5.1.1, iv r5.1.2]), (55, ag [iv r13.1, iv r13.2]), (56, ag [iv r7.1.1, iv r7.1.2]), (57, .bool false), (58, .bool false), (59, ag [iv r5.2.1.1, iv r5.2.1.2]), (60, ag [iv r16.1, iv r16.2]), (61, ag [iv r7.2.1.1, iv r7.2.1.2])])
def S5_3 (p0 : Int) (p1 : Int) (p2 : Int) (p3 : Int) (p6 : Int) (p7 : Int) (p8 : Int) (p9 : Int) (p4 : Int) (p5 : Int) (p10 : Int) (p11 : Int) (r57 : Int) (r1 : ((Int × Int) × (Int × Int))) (r59 : (Int × Int)) (r61 : (Int × Int)) (r3 : (Int × Int)) : CAct := (st 116 [(5, pt 0 0), (6, pt 1 0), (7, pt 2 0), (8, pt 3 0), (9, pt 4 0), (11, pt 5 0), (12, pt 6 0), (97, ag [iv p0, iv p1, iv p2, iv p3]), (98, ag [iv p6, iv p7]), (99, ag [iv p8, iv p9]), (100, ag [iv p4, iv p5]), (101, ag [iv p10, iv p11]), (102, iv r57), (103, ag [iv r1.1.1, iv r1.1.2, iv r1.2.1, iv r1.2.2]), (104, ag [iv p6, iv p7]), (105, ag [iv r59.1, iv r59.2]), (106, ag [iv p8, iv p9]), (107, ag [iv r61.1, iv r61.2]), (108, ag [iv r3.1, iv r3.2]), (109, ag [iv p10, iv p11])])
def S5_4 (r5 : ((Int × Int) × (Int × Int) × Int)) (r7 : ((Int × Int) × (Int × Int) × Int)) (r9 : ((List (Int × Int)) × Int)) (r11 : ((List (Int × Int)) × Int)) (r13 : (Int × Int)) : CAct := (st 116 [(5, pt 0 0), (6, pt 1 0), (7, pt 2 0), (8, pt 3 0), (9, pt 4 0), (11, pt 5 0), (12, pt 6 0), (13, pt 7 0), (14, pt 8 0), (15, iv r5.2.2), (16, pt 9 0), (17, pt 10 0), (18, iv r7.2.2), (19, accV 11 (List.length r9.1)), (20, iv r9.2), (21, accV 12 (List.length r11.1)), (22, iv r11.2), (54, ag [iv r5.1.1, iv r5.1.2]), (55, ag [iv r13.1, iv r13.2]), (56, ag [iv r7.1.1, iv r7.1.2]), (57, .bool false), (58, .bool false), (59, ag [iv r5.2.1.1, iv r5.2.1.2])])
def H5_5 (p0 : Int) (p1 : Int) (p2 : Int) (p3 : Int) (p4 : Int) (p5 : Int) (p6 : Int) (p7 : Int) (p8 : Int) (p9 : Int) (p10 : Int) (p11 : Int) (r1 : ((Int × Int) × (Int × Int))) (r3 : (Int × Int)) (r5 : ((Int × Int) × (Int × Int) × Int)) (r7 : ((Int × Int) × (Int × Int) × Int)) (r9 : ((List (Int × Int)) × Int)) (r11 : ((List (Int × Int)) × Int)) : List Blk := [cl 25 [iv p0, iv p1, iv p2, iv p3], cl 23 [iv p4, iv p5], cl 27 [iv p6, iv p7], cl 27 [iv p8, iv p9], cl 27 [iv p10, iv p11], cl 30 [iv r1.1.1, iv r1.1.2, iv r1.2.1, iv r1.2.2], cl 28 [iv r3.1, iv r3.2], cl 27 [iv r5.1.1, iv r5.1.2], cl 23 [iv r5.2.1.1, iv r5.2.1.2], cl 41 [iv r7.1.1, iv r7.1.2], cl 28 [iv r7.2.1.1, iv r7.2.1.2], accB 27 (List.length r9.1) (List.flatMap e27 r9.1), accB 41 (List.length r11.1) (List.flatMap e41 r11.1)]
def S5_6 (p0 : Int) (p1 : Int) (p2 : Int) (p3 : Int) (p6 : Int) (p7 : Int) (p8 : Int) (p9 : Int) (p4 : Int) (p5 : Int) (p10 : Int) (p11 : Int) (r57 : Int) (r1 : ((Int × Int) × (Int × Int))) (r59 : (Int × Int)) : CAct := (st 116 [(5, pt 0 0), (6, pt 1 0), (7, pt 2 0), (8, pt 3 0), (9, pt 4 0), (11, pt 5 0), (12, pt 6 0), (97, ag [iv p0, iv p1, iv p2, iv p3]), (98, ag [iv p6, iv p7]), (99, ag [iv p8, iv p9]), (100, ag [iv p4, iv p5]), (101, ag [iv p10, iv p11]), (102, iv r57), (103, ag [iv r1.1.1, iv r1.1.2, iv r1.2.1, iv r1.2.2]), (104, ag [iv p6, iv p7]), (105, ag [iv r59.1, iv r59.2]), (106, ag [iv p8, iv p9])])
def S5_7 (r5 : ((Int × Int) × (Int × Int) × Int)) (r7 : ((Int × Int) × (Int × Int) × Int)) (r9 : ((List (Int × Int)) × Int)) (r11 : ((List (Int × Int)) × Int)) (r13 : (Int × Int)) : CAct := (st 116 [(5, pt 0 0), (6, pt 1 0), (7, pt 2 0), (8, pt 3 0), (9, pt 4 0), (11, pt 5 0), (12, pt 6 0), (13, pt 7 0), (14, pt 8 0), (15, iv r5.2.2), (16, pt 9 0), (17, pt 10 0), (18, iv r7.2.2), (19, accV 11 (List.length r9.1)), (20, iv r9.2), (21, accV 12 (List.length r11.1)), (22, iv r11.2), (54, ag [iv r5.1.1, iv r5.1.2]), (55, ag [iv r13.1, iv r13.2]), (56, ag [iv r7.1.1, iv r7.1.2])])
def H5_8 (p0 : Int) (p1 : Int) (p2 : Int) (p3 : Int) (p4 : Int) (p5 : Int) (p6 : Int) (p7 : Int) (p8 : Int) (p9 : Int) (p10 : Int) (p11 : Int) (r1 : ((Int × Int) × (Int × Int))) (r3 : (Int × Int)) (r9 : ((List (Int × Int)) × Int)) (r11 : ((List (Int × Int)) × Int)) : List Blk := [cl 25 [iv p0, iv p1, iv p2, iv p3], cl 23 [iv p4, iv p5], cl 27 [iv p6, iv p7], cl 27 [iv p8, iv p9], cl 27 [iv p10, iv p11], cl 30 [iv r1.1.1, iv r1.1.2, iv r1.2.1, iv r1.2.2], cl 28 [iv r3.1, iv r3.2], .dead, .dead, .dead, .dead, accB 27 (List.length r9.1) (List.flatMap e27 r9.1), accB 41 (List.length r11.1) (List.flatMap e41 r11.1)]
def S5_9 (r5 : ((Int × Int) × (Int × Int) × Int)) (r7 : ((Int × Int) × (Int × Int) × Int)) (r9 : ((List (Int × Int)) × Int)) (r11 : ((List (Int × Int)) × Int)) : CAct := (st 116 [(5, pt 0 0), (6, pt 1 0), (7, pt 2 0), (8, pt 3 0), (9, pt 4 0), (11, pt 5 0), (12, pt 6 0), (13, pt 7 0), (14, pt 8 0), (15, iv r5.2.2), (16, pt 9 0), (17, pt 10 0), (18, iv r7.2.2), (19, accV 11 (List.length r9.1)), (20, iv r9.2), (21, accV 12 (List.length r11.1)), (22, iv r11.2), (54, ag [iv r5.1.1, iv r5.1.2])])
def H5_10 (p0 : Int) (p1 : Int) (p2 : Int) (p3 : Int) (p4 : Int) (p5 : Int) (p6 : Int) (p7 : Int) (p8 : Int) (p9 : Int) (p10 : Int) (p11 : Int) (r1 : ((Int × Int) × (Int × Int))) (r3 : (Int × Int)) (r9 : ((List (Int × Int)) × Int)) (r11 : ((List (Int × Int)) × Int)) : List Blk := [cl 25 [iv p0, iv p1, iv p2, iv p3], cl 23 [iv p4, iv p5], cl 27 [iv p6, iv p7], cl 27 [iv p8, iv p9], cl 27 [iv p10, iv p11], cl 30 [iv r1.1.1, iv r1.1.2, iv r1.2.1, iv r1.2.2], cl 28 [iv r3.1, iv r3.2], accB 27 (List.length r9.1) (List.flatMap e27 r9.1), accB 41 (List.length r11.1) (List.flatMap e41 r11.1)]
def H5_11 (p0 : Int) (p1 : Int) (p2 : Int) (p3 : Int) (p4 : Int) (p5 : Int) (p6 : Int) (p7 : Int) (p8 : Int) (p9 : Int) (p10 : Int) (p11 : Int) (r1 : ((Int × Int) × (Int × Int))) (r3 : (Int × Int)) : List Blk := [cl 25 [iv p0, iv p1, iv p2, iv p3], cl 23 [iv p4, iv p5], cl 27 [iv p6, iv p7], cl 27 [iv p8, iv p9], cl 27 [iv p10, iv p11], cl 30 [iv r1.1.1, iv r1.1.2, iv r1.2.1, iv r1.2.2], cl 28 [iv r3.1, iv r3.2]]
def S5_12 (r9 : ((List (Int × Int)) × Int)) (r11 : ((List (Int × Int)) × Int)) (v32 : Int) : CAct := (st 116 [(5, pt 0 0), (6, pt 1 0), (7, pt 2 0), (8, pt 3 0), (9, pt 4 0), (11, pt 5 0), (12, pt 6 0), (19, accV 7 (List.length r9.1)), (21, accV 8 (List.length r11.1)), (23, iv (w64 (v32 + 1)))])
def S5_13 (r9 : ((List (Int × Int)) × Int)) (r11 : ((List (Int × Int)) × Int)) : CAct := (st 116 [(5, pt 0 0), (6, pt 1 0), (7, pt 2 0), (8, pt 3 0), (9, pt 4 0), (11, pt 5 0), (12, pt 6 0), (19, accV 11 (List.length r9.1)), (21, accV 12 (List.length r11.1)), (80, .bool true)])
def S5_14 (r9 : ((List (Int × Int)) × Int)) (r11 : ((List (Int × Int)) × Int)) (v32 : Int) : CAct := (st 116 [(5, pt 0 0), (6, pt 1 0), (7, pt 2 0), (8, pt 3 0), (9, pt 4 0), (11, pt 5 0), (12, pt 6 0), (19, accV 7 (List.length r9.1)), (21, accV 8 (List.length r11.1)), (23, iv v32)])
def H5_15 (p0 : Int) (p1 : Int) (p2 : Int) (p3 : Int) (p4 : Int) (p5 : Int) (p6 : Int) (p7 : Int) (p8 : Int) (p9 : Int) (p10 : Int) (p11 : Int) : List Blk := [cl 25 [iv p0, iv p1, iv p2, iv p3], cl 23 [iv p4, iv p5], cl 27 [iv p6, iv p7], cl 27 [iv p8, iv p9], cl 27 [iv p10, iv p11]]
def S5_16  : CAct := (st 116 [(5, pt 0 0), (6, pt 1 0), (7, pt 2 0), (8, pt 3 0), (9, pt 4 0), (11, pt 5 0), (12, pt 6 0)])
def F5l0 (p0 : Int) (p1 : Int) (p2 : Int) (p3 : Int) (p4 : Int) (p5 : Int) (p6 : Int) (p7 : Int) (p8 : Int) (p9 : Int) (p10 : Int) (p11 : Int) (r1 : ((Int × Int) × (Int × Int))) (r3 : (Int × Int)) (r9 : ((List (Int × Int)) × Int)) (r11 : ((List (Int × Int)) × Int)) (v32 : Int) : Option (Unit ⊕ Unit) :=
    if decide (v32 < (List.length r9.1 : Int)) then
      if (0 : Int) ≤ v32 ∧ v32 < (List.length r9.1 : Int) then
        some (List.getD r9.1 (Int.toNat v32) (0, 0)) >>= fun o45 =>
        F19 o45.1 o45.2 >>= fun r47 =>
        if (0 : Int) ≤ v32 ∧ v32 < (List.length r11.1 : Int) then
          some (List.getD r11.1 (Int.toNat v32) (0, 0)) >>= fun o50 =>
          if !((r47.1 == o50.1) && ((r47.2 == o50.2) && true)) then
            some (.inl ())
          else
            F5l0 p0 p1 p2 p3 p4 p5 p6 p7 p8 p9 p10 p11 r1 r3 r9 r11 (w64 (v32 + 1))
        else none
      else none
    else
      some (.inr ())
  partial_fixpoint
def F5 (p0 : Int) (p1 : Int) (p2 : Int) (p3 : Int) (p4 : Int) (p5 : Int) (p6 : Int) (p7 : Int) (p8 : Int) (p9 : Int) (p10 : Int) (p11 : Int) : Option Bool :=
  F13 p0 p1 p2 p3 >>= fun r1 =>
  F18 p4 p5 >>= fun r3 =>
  F28 p0 p1 p2 p3 p4 p5 >>= fun r5 =>
  F29 r1.1.1 r1.1.2 r1.2.1 r1.2.2 r3.1 r3.2 >>= fun r7 =>
  F30 p0 p1 p2 p3 p4 p5 >>= fun r9 =>
  F31 r1.1.1 r1.1.2 r1.2.1 r1.2.2 r3.1 r3.2 >>= fun r11 =>
  F19 r5.1.1 r5.1.2 >>= fun r13 =>
  (
    if !((r13.1 == r7.1.1) && ((r13.2 == r7.1.2) && true)) then
      some (true)
    else
      F18 r5.2.1.1 r5.2.1.2 >>= fun r16 =>
      if !((r16.1 == r7.2.1.1) && ((r16.2 == r7.2.1.2) && true)) then
        some (true)
      else
        if r5.2.2 != r7.2.2 then
          some (true)
        else
          if r9.2 != r11.2 then
            some (true)
          else
            some ((List.length r9.1 : Int) != (List.length r11.1 : Int))
  : Option Bool) >>= fun m21 =>
  if m21 then
    some false
  else
    F5l0 p0 p1 p2 p3 p4 p5 p6 p7 p8 p9 p10 p11 r1 r3 r9 r11 0 >>= fun r53 =>
    match r53 with
    | .inl o55 =>
      some false
    | .inr o56 =>
      F32 p0 p1 p2 p3 p6 p7 p8 p9 p4 p5 p10 p11 >>= fun r57 =>
      F19 p6 p7 >>= fun r59 =>
      F19 p8 p9 >>= fun r61 =>
      F19 p10 p11 >>= fun r63 =>
      F33 r1.1.1 r1.1.2 r1.2.1 r1.2.2 r59.1 r59.2 r61.1 r61.2 r3.1 r3.2 r63.1 r63.2 >>= fun r65 =>
      (
        if r57 == r65 then
          F22 >>= fun r68 =>
          some (r68)
        else
          some (false)
      : Option Bool) >>= fun m70 =>
      some m70
def V5 (b : Nat) (r : Bool) : Value := .bool r
def N5 (b : Nat) (r : Bool) : List Blk := []
def P5l0 (p0 : Int) (p1 : Int) (p2 : Int) (p3 : Int) (p4 : Int) (p5 : Int) (p6 : Int) (p7 : Int) (p8 : Int) (p9 : Int) (p10 : Int) (p11 : Int) (r1 : ((Int × Int) × (Int × Int))) (r3 : (Int × Int)) (r9 : ((List (Int × Int)) × Int)) (r11 : ((List (Int × Int)) × Int)) (r : (Unit ⊕ Unit)) : Post := fun e a h => (match r with | .inl q0 => e = .ret ∧ Wk Try.prog 0 0 a h (st 116 [(10, .bool false)]) [] | .inr q0 => e = .exit 0 ∧ Wk Try.prog 0 0 a h (S5_16) (H5_11 p0 p1 p2 p3 p4 p5 p6 p7 p8 p9 p10 p11 r1 r3))
theorem L5l0 (p0 : Int) (p1 : Int) (p2 : Int) (p3 : Int) (p4 : Int) (p5 : Int) (p6 : Int) (p7 : Int) (p8 : Int) (p9 : Int) (p10 : Int) (p11 : Int) (r1 : ((Int × Int) × (Int × Int))) (r3 : (Int × Int)) (r9 : ((List (Int × Int)) × Int)) (r11 : ((List (Int × Int)) × Int)) (v32 : Int) (r : (Unit ⊕ Unit)) (hF : F5l0 p0 p1 p2 p3 p4 p5 p6 p7 p8 p9 p10 p11 r1 r3 r9 r11 v32 = some r) : TL Try.prog 0 0 c5.s2.s2.s2.s2.s2.s2.s2.s1.s2.bd.bd (S5_14 r9 r11 v32) (H5_10 p0 p1 p2 p3 p4 p5 p6 p7 p8 p9 p10 p11 r1 r3 r9 r11) (P5l0 p0 p1 p2 p3 p4 p5 p6 p7 p8 p9 p10 p11 r1 r3 r9 r11 r) := by
  refine F5l0.partial_correctness p0 p1 p2 p3 p4 p5 p6 p7 p8 p9 p10 p11 r1 r3 r9 r11 (motive := fun v32 r => TL Try.prog 0 0 c5.s2.s2.s2.s2.s2.s2.s2.s1.s2.bd.bd (S5_14 r9 r11 v32) (H5_10 p0 p1 p2 p3 p4 p5 p6 p7 p8 p9 p10 p11 r1 r3 r9 r11) (P5l0 p0 p1 p2 p3 p4 p5 p6 p7 p8 p9 p10 p11 r1 r3 r9 r11 r)) ?_ v32 r hF
  clear hF r v32
  intro again ih v32 r hF
  refine TL.round (TS.sq (TS.sq (TS.rg (TI.ra 4 [5, 6, 7, 8, 9, 11, 12, 19, 21, 23, 84] (st 116 [(5, pt 0 0), (6, pt 1 0), (7, pt 2 0), (8, pt 3 0), (9, pt 4 0), (11, pt 5 0), (12, pt 6 0), (19, accV 7 (List.length r9.1)), (21, accV 8 (List.length r11.1)), (23, iv v32), (84, .bool (decide (v32 < (List.length r9.1 : Int))))]) (TI.dn (NX.sq ?_))))))
  refine TS.cd (.tmp 84) (decide (v32 < (List.length r9.1 : Int))) (fun hc43 => ?_) (fun hc43 => ?_)
  · replace hF := of_pos hF hc43
    refine TS.sk (NX.sq (TS.sq (TS.bk 1 (TS.sq ?_))))
    have hX := of_guard hF
    clear hF
    obtain ⟨hg44, hF⟩ := hX
    have hX := of_do hF
    clear hF
    obtain ⟨o45, h46, hF⟩ := hX
    replace h46 := Option.some.inj h46
    have hX := of_do hF
    clear hF
    obtain ⟨r47, h48, hF⟩ := hX
    have hX := of_guard hF
    clear hF
    obtain ⟨hg49, hF⟩ := hX
    have hX := of_do hF
    clear hF
    obtain ⟨o50, h51, hF⟩ := hX
    replace h51 := Option.some.inj h51
    have hT : ∀ e ∈ ([⟨19, [ag [iv o45.1, iv o45.2]], (H5_10 p0 p1 p2 p3 p4 p5 p6 p7 p8 p9 p10 p11 r1 r3 r9 r11), ag [iv r47.1, iv r47.2], []⟩] : List Entry), PureSim Try.prog e.g e.args e.h e.v e.new := by
      intro e he
      simp only [List.mem_cons, List.not_mem_nil, or_false] at he
      rcases he with rfl
      · exact PureSim.ak (C19 _ _ _ h48)
    refine TS.dp [⟨19, [ag [iv o45.1, iv o45.2]], (H5_10 p0 p1 p2 p3 p4 p5 p6 p7 p8 p9 p10 p11 r1 r3 r9 r11), ag [iv r47.1, iv r47.2], []⟩] hT mixed 9 [5, 6, 7, 8, 9, 11, 12, 19, 21, 23, 96] [0, 1, 2, 3, 4, 5, 6, 7, 8] (st 116 [(5, pt 0 0), (6, pt 1 0), (7, pt 2 0), (8, pt 3 0), (9, pt 4 0), (11, pt 5 0), (12, pt 6 0), (19, accV 7 (List.length r9.1)), (21, accV 8 (List.length r11.1)), (23, iv v32), (96, .bool (!((r47.1 == o50.1) && ((r47.2 == o50.2) && true))))]) (H5_10 p0 p1 p2 p3 p4 p5 p6 p7 p8 p9 p10 p11 r1 r3 r9 r11) ?_ ?_
    · refine QJ.rn (qs (st 116 [(5, pt 0 0), (6, pt 1 0), (7, pt 2 0), (8, pt 3 0), (9, pt 4 0), (11, pt 5 0), (12, pt 6 0), (19, accV 7 (List.length r9.1)), (21, accV 8 (List.length r11.1)), (23, iv v32), (84, .bool (decide (v32 < (List.length r9.1 : Int)))), (87, accV 7 (List.length r9.1)), (88, iv v32)]) (H5_10 p0 p1 p2 p3 p4 p5 p6 p7 p8 p9 p10 p11 r1 r3 r9 r11) [] []) 2 (QJ.o { val := .pointer (some ⟨7, 0 + (Int.toNat v32) * 2, none⟩) } (q_ixAcc (P := Try.prog) (t := 60) (s := 2) (e := 27) 7 (List.length r9.1) (by kernel_rfl) hg44 (by kernel_rfl) (by kernel_rfl)) ?_)
      refine QJ.o { val := ag [iv o45.1, iv o45.2] } (q_eqv (q_ldA (P := Try.prog) (hp := (H5_10 p0 p1 p2 p3 p4 p5 p6 p7 p8 p9 p10 p11 r1 r3 r9 r11)) (t := 27) (b := 7) (off := 0 + (Int.toNat v32) * 2) (l := r9.1) (enc := e27) (s := 2) (T := 27) (i := Int.toNat v32) (by kernel_rfl) (accB_at (h := (H5_10 p0 p1 p2 p3 p4 p5 p6 p7 p8 p9 p10 p11 r1 r3 r9 r11)) (n := List.length r9.1) (i := Int.toNat v32) (by kernel_rfl) (by first | omega | (simp only [List.length_set, List.length_replicate, List.length_cons, List.length_nil, List.length_append]; omega))) (by kernel_rfl) (by kernel_rfl) (fun _ => rfl) (by omega) (by first | omega | (simp only [List.length_set, List.length_replicate, List.length_cons, List.length_nil, List.length_append]; omega)) (0, 0)) (congrArg (fun (z : (Int × Int)) => ({ val := ag [iv z.1, iv z.2] } : QRes)) h46)) (QJ.o { val := ag [iv r47.1, iv r47.2], new := [] } (qOf_call (g := 19) (args := [ag [iv o45.1, iv o45.2]]) (by kernel_rfl) lookC_hit) (QJ.rn (qs (st 116 [(5, pt 0 0), (6, pt 1 0), (7, pt 2 0), (8, pt 3 0), (9, pt 4 0), (11, pt 5 0), (12, pt 6 0), (19, accV 7 (List.length r9.1)), (21, accV 8 (List.length r11.1)), (23, iv v32), (84, .bool (decide (v32 < (List.length r9.1 : Int)))), (87, accV 7 (List.length r9.1)), (88, iv v32), (89, .pointer (some ⟨7, 0 + (Int.toNat v32) * 2, none⟩)), (90, ag [iv o45.1, iv o45.2]), (91, ag [iv r47.1, iv r47.2]), (92, accV 8 (List.length r11.1)), (93, iv v32)]) (H5_10 p0 p1 p2 p3 p4 p5 p6 p7 p8 p9 p10 p11 r1 r3 r9 r11) [] []) 2 (QJ.o { val := .pointer (some ⟨8, 0 + (Int.toNat v32) * 2, none⟩) } (q_ixAcc (P := Try.prog) (t := 63) (s := 2) (e := 41) 8 (List.length r11.1) (by kernel_rfl) hg49 (by kernel_rfl) (by kernel_rfl)) ?_)))
      exact QJ.o { val := ag [iv o50.1, iv o50.2] } (q_eqv (q_ldA (P := Try.prog) (hp := (H5_10 p0 p1 p2 p3 p4 p5 p6 p7 p8 p9 p10 p11 r1 r3 r9 r11)) (t := 41) (b := 8) (off := 0 + (Int.toNat v32) * 2) (l := r11.1) (enc := e41) (s := 2) (T := 41) (i := Int.toNat v32) (by kernel_rfl) (accB_at (h := (H5_10 p0 p1 p2 p3 p4 p5 p6 p7 p8 p9 p10 p11 r1 r3 r9 r11)) (n := List.length r11.1) (i := Int.toNat v32) (by kernel_rfl) (by first | omega | (simp only [List.length_set, List.length_replicate, List.length_cons, List.length_nil, List.length_append]; omega))) (by kernel_rfl) (by kernel_rfl) (fun _ => rfl) (by omega) (by first | omega | (simp only [List.length_set, List.length_replicate, List.length_cons, List.length_nil, List.length_append]; omega)) (0, 0)) (congrArg (fun (z : (Int × Int)) => ({ val := ag [iv z.1, iv z.2] } : QRes)) h51)) (QJ.dn ⟨rfl, SJ.la⟩)
    refine TS.cd (.tmp 96) (!((r47.1 == o50.1) && ((r47.2 == o50.2) && true))) (fun hc52 => ?_) (fun hc52 => ?_)
    · replace hF := of_pos hF hc52
      refine TS.sq (TS.rg (TI.rn 1 [10] [] (st 116 [(10, .bool false)]) [.dead, .dead, .dead, .dead, .dead, .dead, .dead, .dead, .dead] (TI.dn (NX.sq (TS.rt (NX.bkR (NX.sqR ?_)))))))
      have hF := Option.some.inj hF
      subst hF
      exact Rd.out (e := .ret) (by intro h; cases h) (And.intro rfl (Wk.anew (base := 0) (L := 0) (f := []) (by decide) (by decide) (Nat.le_of_ble_eq_true rfl) rfl (.nil _) (LRn.stx [10] [.bool false] [.bool false] (.cons (.flat (by kernel_rfl)) .nil) (by kernel_rfl) (by kernel_rfl) rfl) rfl rfl))
    · replace hF := of_neg hF hc52
      refine TS.sk (NX.bk (NX.sq (TS.rg (TI.ra 3 [5, 6, 7, 8, 9, 11, 12, 19, 21, 23] (S5_12 r9 r11 v32) (TI.dn ?_)))))
      exact Rd.again (a2 := (S5_12 r9 r11 v32)) (h2 := (H5_10 p0 p1 p2 p3 p4 p5 p6 p7 p8 p9 p10 p11 r1 r3 r9 r11)) (Wk.anew (base := 0) (L := 0) (f := [0, 1, 2, 3, 4, 5, 6, 7, 8]) (by decide) (by decide) (Nat.le_of_ble_eq_true rfl) rfl (.cons (At.blk (by kernel_rfl) (RnB.lit (.cons (.flat (by kernel_rfl)) (.cons (.flat (by kernel_rfl)) (.cons (.flat (by kernel_rfl)) (.cons (.flat (by kernel_rfl)) .nil)))))) (.cons (At.blk (by kernel_rfl) (RnB.lit (.cons (.flat (by kernel_rfl)) (.cons (.flat (by kernel_rfl)) .nil)))) (.cons (At.blk (by kernel_rfl) (RnB.lit (.cons (.flat (by kernel_rfl)) (.cons (.flat (by kernel_rfl)) .nil)))) (.cons (At.blk (by kernel_rfl) (RnB.lit (.cons (.flat (by kernel_rfl)) (.cons (.flat (by kernel_rfl)) .nil)))) (.cons (At.blk (by kernel_rfl) (RnB.lit (.cons (.flat (by kernel_rfl)) (.cons (.flat (by kernel_rfl)) .nil)))) (.cons (At.blk (by kernel_rfl) (RnB.lit (.cons (.flat (by kernel_rfl)) (.cons (.flat (by kernel_rfl)) (.cons (.flat (by kernel_rfl)) (.cons (.flat (by kernel_rfl)) .nil)))))) (.cons (At.blk (by kernel_rfl) (RnB.lit (.cons (.flat (by kernel_rfl)) (.cons (.flat (by kernel_rfl)) .nil)))) (.cons (At.acc (by kernel_rfl) rfl (fun _ => rfl)) (.cons (At.acc (by kernel_rfl) rfl (fun _ => rfl)) (.nil _)))))))))) (LRn.stx [5, 6, 7, 8, 9, 11, 12, 19, 21, 23] [pt 0 0, pt 1 0, pt 2 0, pt 3 0, pt 4 0, pt 5 0, pt 6 0, accV 7 (List.length r9.1), accV 8 (List.length r11.1), iv (w64 (v32 + 1))] [pt 0 0, pt 1 0, pt 2 0, pt 3 0, pt 4 0, pt 5 0, pt 6 0, accV 7 (List.length r9.1), accV 8 (List.length r11.1), iv (w64 (v32 + 1))] (.cons (Rn.ptr _ _ _ (Nat.le_of_ble_eq_true rfl) rfl) (.cons (Rn.ptr _ _ _ (Nat.le_of_ble_eq_true rfl) rfl) (.cons (Rn.ptr _ _ _ (Nat.le_of_ble_eq_true rfl) rfl) (.cons (Rn.ptr _ _ _ (Nat.le_of_ble_eq_true rfl) rfl) (.cons (Rn.ptr _ _ _ (Nat.le_of_ble_eq_true rfl) rfl) (.cons (Rn.ptr _ _ _ (Nat.le_of_ble_eq_true rfl) rfl) (.cons (Rn.ptr _ _ _ (Nat.le_of_ble_eq_true rfl) rfl) (.cons (Rn.acc (Nat.le_of_ble_eq_true rfl) rfl) (.cons (Rn.acc (Nat.le_of_ble_eq_true rfl) rfl) (.cons (.flat (by kernel_rfl)) .nil)))))))))) (by kernel_rfl) (by kernel_rfl) rfl) rfl rfl) (ih (w64 (v32 + 1)) _ hF)
  · replace hF := of_neg hF hc43
    refine TS.ex 0 (NX.sqX ?_)
    have hF := Option.some.inj hF
    subst hF
    exact Rd.out (e := .exit 0) (by intro h; cases h) (And.intro rfl (Wk.anew (base := 0) (L := 0) (f := [0, 1, 2, 3, 4, 5, 6]) (by decide) (by decide) (Nat.le_of_ble_eq_true rfl) rfl (.cons (At.blk (by kernel_rfl) (RnB.lit (.cons (.flat (by kernel_rfl)) (.cons (.flat (by kernel_rfl)) (.cons (.flat (by kernel_rfl)) (.cons (.flat (by kernel_rfl)) .nil)))))) (.cons (At.blk (by kernel_rfl) (RnB.lit (.cons (.flat (by kernel_rfl)) (.cons (.flat (by kernel_rfl)) .nil)))) (.cons (At.blk (by kernel_rfl) (RnB.lit (.cons (.flat (by kernel_rfl)) (.cons (.flat (by kernel_rfl)) .nil)))) (.cons (At.blk (by kernel_rfl) (RnB.lit (.cons (.flat (by kernel_rfl)) (.cons (.flat (by kernel_rfl)) .nil)))) (.cons (At.blk (by kernel_rfl) (RnB.lit (.cons (.flat (by kernel_rfl)) (.cons (.flat (by kernel_rfl)) .nil)))) (.cons (At.blk (by kernel_rfl) (RnB.lit (.cons (.flat (by kernel_rfl)) (.cons (.flat (by kernel_rfl)) (.cons (.flat (by kernel_rfl)) (.cons (.flat (by kernel_rfl)) .nil)))))) (.cons (At.blk (by kernel_rfl) (RnB.lit (.cons (.flat (by kernel_rfl)) (.cons (.flat (by kernel_rfl)) .nil)))) (.nil _)))))))) (LRn.stx [5, 6, 7, 8, 9, 11, 12] [pt 0 0, pt 1 0, pt 2 0, pt 3 0, pt 4 0, pt 5 0, pt 6 0] [pt 0 0, pt 1 0, pt 2 0, pt 3 0, pt 4 0, pt 5 0, pt 6 0] (.cons (Rn.ptr _ _ _ (Nat.le_of_ble_eq_true rfl) rfl) (.cons (Rn.ptr _ _ _ (Nat.le_of_ble_eq_true rfl) rfl) (.cons (Rn.ptr _ _ _ (Nat.le_of_ble_eq_true rfl) rfl) (.cons (Rn.ptr _ _ _ (Nat.le_of_ble_eq_true rfl) rfl) (.cons (Rn.ptr _ _ _ (Nat.le_of_ble_eq_true rfl) rfl) (.cons (Rn.ptr _ _ _ (Nat.le_of_ble_eq_true rfl) rfl) (.cons (Rn.ptr _ _ _ (Nat.le_of_ble_eq_true rfl) rfl) .nil))))))) (by kernel_rfl) (by kernel_rfl) rfl) rfl rfl))
theorem B5 (p0 : Int) (p1 : Int) (p2 : Int) (p3 : Int) (p4 : Int) (p5 : Int) (p6 : Int) (p7 : Int) (p8 : Int) (p9 : Int) (p10 : Int) (p11 : Int) (r : Bool) (hF : F5 p0 p1 p2 p3 p4 p5 p6 p7 p8 p9 p10 p11 = some r) : TS Try.prog 0 0 c5 (st 116 [(0, ag [iv p0, iv p1, iv p2, iv p3]), (1, ag [iv p4, iv p5]), (2, ag [iv p6, iv p7]), (3, ag [iv p8, iv p9]), (4, ag [iv p10, iv p11])]) [] (NX Try.prog 0 0 [] (FinP Try.prog Try.f5 0 (V5 0 r) (N5 0 r))) := by
  unfold F5 at hF
  refine TS.sq (TS.rg (TI.rn 6 [5, 6, 7, 8, 9] [0, 1, 2, 3, 4] (st 116 [(5, pt 0 0), (6, pt 1 0), (7, pt 2 0), (8, pt 3 0), (9, pt 4 0)]) (H5_15 p0 p1 p2 p3 p4 p5 p6 p7 p8 p9 p10 p11) (TI.dn (NX.sq (TS.sq ?_)))))
  have hX := of_do hF
  clear hF
  obtain ⟨r1, h2, hF⟩ := hX
  have hX := of_do hF
  clear hF
  obtain ⟨r3, h4, hF⟩ := hX
  have hT : ∀ e ∈ ([⟨13, [ag [iv p0, iv p1, iv p2, iv p3]], (H5_15 p0 p1 p2 p3 p4 p5 p6 p7 p8 p9 p10 p11), ag [iv r1.1.1, iv r1.1.2, iv r1.2.1, iv r1.2.2], []⟩, ⟨18, [ag [iv p4, iv p5]], (H5_15 p0 p1 p2 p3 p4 p5 p6 p7 p8 p9 p10 p11), ag [iv r3.1, iv r3.2], []⟩] : List Entry), PureSim Try.prog e.g e.args e.h e.v e.new := by
    intro e he
    simp only [List.mem_cons, List.not_mem_nil, or_false] at he
    rcases he with rfl | rfl
    · exact PureSim.ak (C13 _ _ _ _ _ h2)
    · exact PureSim.ak (C18 _ _ _ h4)
  refine TS.dp [⟨13, [ag [iv p0, iv p1, iv p2, iv p3]], (H5_15 p0 p1 p2 p3 p4 p5 p6 p7 p8 p9 p10 p11), ag [iv r1.1.1, iv r1.1.2, iv r1.2.1, iv r1.2.2], []⟩, ⟨18, [ag [iv p4, iv p5]], (H5_15 p0 p1 p2 p3 p4 p5 p6 p7 p8 p9 p10 p11), ag [iv r3.1, iv r3.2], []⟩] hT mixed 6 [5, 6, 7, 8, 9, 11, 12] [0, 1, 2, 3, 4, 5, 6] (S5_16) (H5_11 p0 p1 p2 p3 p4 p5 p6 p7 p8 p9 p10 p11 r1 r3) ?_ ?_
  · exact QJ.rn (qs (st 116 [(5, pt 0 0), (6, pt 1 0), (7, pt 2 0), (8, pt 3 0), (9, pt 4 0), (24, ag [iv p0, iv p1, iv p2, iv p3])]) (H5_15 p0 p1 p2 p3 p4 p5 p6 p7 p8 p9 p10 p11) [] []) 1 (QJ.o { val := ag [iv r1.1.1, iv r1.1.2, iv r1.2.1, iv r1.2.2], new := [] } (qOf_call (g := 13) (args := [ag [iv p0, iv p1, iv p2, iv p3]]) (by kernel_rfl) lookC_hit) (QJ.rn (qs (st 116 [(5, pt 0 0), (6, pt 1 0), (7, pt 2 0), (8, pt 3 0), (9, pt 4 0), (24, ag [iv p0, iv p1, iv p2, iv p3]), (25, ag [iv r1.1.1, iv r1.1.2, iv r1.2.1, iv r1.2.2]), (26, ag [iv p4, iv p5])]) (H5_15 p0 p1 p2 p3 p4 p5 p6 p7 p8 p9 p10 p11) [] []) 1 (QJ.o { val := ag [iv r3.1, iv r3.2], new := [] } (qOf_call (g := 18) (args := [ag [iv p4, iv p5]]) (by kernel_rfl) (lookC_skip (fun hg => absurd (show (13 : Nat) = 18 from hg) (by decide)) lookC_hit)) (QJ.rn (qs (st 116 [(5, pt 0 0), (6, pt 1 0), (7, pt 2 0), (8, pt 3 0), (9, pt 4 0), (11, pt 5 0), (12, pt 6 0), (24, ag [iv p0, iv p1, iv p2, iv p3]), (25, ag [iv r1.1.1, iv r1.1.2, iv r1.2.1, iv r1.2.2]), (26, ag [iv p4, iv p5]), (27, ag [iv r3.1, iv r3.2])]) [cl 25 [iv p0, iv p1, iv p2, iv p3], cl 23 [iv p4, iv p5], cl 27 [iv p6, iv p7], cl 27 [iv p8, iv p9], cl 27 [iv p10, iv p11], cl 30 [iv 0, iv 0, iv 0, iv 0], cl 28 [iv 0, iv 0]] [(5, 6, 7), (4, 5, 6)] []) 2 (QJ.dn ⟨rfl, SJ.la⟩)))))
  refine TS.sq ?_
  have hX := of_do hF
  clear hF
  obtain ⟨r5, h6, hF⟩ := hX
  refine TS.rg (TI.ra 2 [5, 6, 7, 8, 9, 11, 12, 29, 30] (st 116 [(5, pt 0 0), (6, pt 1 0), (7, pt 2 0), (8, pt 3 0), (9, pt 4 0), (11, pt 5 0), (12, pt 6 0), (29, ag [iv p0, iv p1, iv p2, iv p3]), (30, ag [iv p4, iv p5])]) (TI.cf (C28 _ _ _ _ _ _ _ h6) (TI.rn 9 [5, 6, 7, 8, 9, 11, 12, 13, 14, 15] [0, 1, 2, 3, 4, 5, 6, 7, 8] (st 116 [(5, pt 0 0), (6, pt 1 0), (7, pt 2 0), (8, pt 3 0), (9, pt 4 0), (11, pt 5 0), (12, pt 6 0), (13, pt 7 0), (14, pt 8 0), (15, iv r5.2.2)]) [cl 25 [iv p0, iv p1, iv p2, iv p3], cl 23 [iv p4, iv p5], cl 27 [iv p6, iv p7], cl 27 [iv p8, iv p9], cl 27 [iv p10, iv p11], cl 30 [iv r1.1.1, iv r1.1.2, iv r1.2.1, iv r1.2.2], cl 28 [iv r3.1, iv r3.2], cl 27 [iv r5.1.1, iv r5.1.2], cl 23 [iv r5.2.1.1, iv r5.2.1.2]] (TI.dn (NX.sq (TS.sq ?_))))))
  have hX := of_do hF
  clear hF
  obtain ⟨r7, h8, hF⟩ := hX
  refine TS.rg (TI.ra 2 [5, 6, 7, 8, 9, 11, 12, 13, 14, 15, 36, 37] (st 116 [(5, pt 0 0), (6, pt 1 0), (7, pt 2 0), (8, pt 3 0), (9, pt 4 0), (11, pt 5 0), (12, pt 6 0), (13, pt 7 0), (14, pt 8 0), (15, iv r5.2.2), (36, ag [iv r1.1.1, iv r1.1.2, iv r1.2.1, iv r1.2.2]), (37, ag [iv r3.1, iv r3.2])]) (TI.cf (C29 _ _ _ _ _ _ _ h8) (TI.rn 9 [5, 6, 7, 8, 9, 11, 12, 13, 14, 15, 16, 17, 18] [0, 1, 2, 3, 4, 5, 6, 7, 8, 9, 10] (st 116 [(5, pt 0 0), (6, pt 1 0), (7, pt 2 0), (8, pt 3 0), (9, pt 4 0), (11, pt 5 0), (12, pt 6 0), (13, pt 7 0), (14, pt 8 0), (15, iv r5.2.2), (16, pt 9 0), (17, pt 10 0), (18, iv r7.2.2)]) [cl 25 [iv p0, iv p1, iv p2, iv p3], cl 23 [iv p4, iv p5], cl 27 [iv p6, iv p7], cl 27 [iv p8, iv p9], cl 27 [iv p10, iv p11], cl 30 [iv r1.1.1, iv r1.1.2, iv r1.2.1, iv r1.2.2], cl 28 [iv r3.1, iv r3.2], cl 27 [iv r5.1.1, iv r5.1.2], cl 23 [iv r5.2.1.1, iv r5.2.1.2], cl 41 [iv r7.1.1, iv r7.1.2], cl 28 [iv r7.2.1.1, iv r7.2.1.2]] (TI.dn (NX.sq (TS.sq ?_))))))
  have hX := of_do hF
  clear hF
  obtain ⟨r9, h10, hF⟩ := hX
  refine TS.rg (TI.ra 2 [5, 6, 7, 8, 9, 11, 12, 13, 14, 15, 16, 17, 18, 43, 44] (st 116 [(5, pt 0 0), (6, pt 1 0), (7, pt 2 0), (8, pt 3 0), (9, pt 4 0), (11, pt 5 0), (12, pt 6 0), (13, pt 7 0), (14, pt 8 0), (15, iv r5.2.2), (16, pt 9 0), (17, pt 10 0), (18, iv r7.2.2), (43, ag [iv p0, iv p1, iv p2, iv p3]), (44, ag [iv p4, iv p5])]) (TI.cp 30 [ag [iv p0, iv p1, iv p2, iv p3], ag [iv p4, iv p5]] (.tuple ⟨[accV 11 (List.length r9.1), iv r9.2]⟩) [accB 27 (List.length r9.1) (List.flatMap e27 r9.1)] (PureSim.ren (hc := []) (fun i => List.getD [] i (0, 0)) (C30 _ _ _ _ _ _ _ h10) (.nil _) (.cons (.flat (by kernel_rfl)) (.cons (.flat (by kernel_rfl)) .nil)) (Rn.tuple' (.cons (Rn.acc (i' := 11) (Nat.le_of_ble_eq_true rfl) rfl) (.cons (.flat (by kernel_rfl)) .nil))) (newflat_cons (accB_flat (fun _ => rfl)) newflat_nil)) (TI.rn 5 [5, 6, 7, 8, 9, 11, 12, 13, 14, 15, 16, 17, 18, 19, 20] [0, 1, 2, 3, 4, 5, 6, 7, 8, 9, 10, 11] (st 116 [(5, pt 0 0), (6, pt 1 0), (7, pt 2 0), (8, pt 3 0), (9, pt 4 0), (11, pt 5 0), (12, pt 6 0), (13, pt 7 0), (14, pt 8 0), (15, iv r5.2.2), (16, pt 9 0), (17, pt 10 0), (18, iv r7.2.2), (19, accV 11 (List.length r9.1)), (20, iv r9.2)]) [cl 25 [iv p0, iv p1, iv p2, iv p3], cl 23 [iv p4, iv p5], cl 27 [iv p6, iv p7], cl 27 [iv p8, iv p9], cl 27 [iv p10, iv p11], cl 30 [iv r1.1.1, iv r1.1.2, iv r1.2.1, iv r1.2.2], cl 28 [iv r3.1, iv r3.2], cl 27 [iv r5.1.1, iv r5.1.2], cl 23 [iv r5.2.1.1, iv r5.2.1.2], cl 41 [iv r7.1.1, iv r7.1.2], cl 28 [iv r7.2.1.1, iv r7.2.1.2], accB 27 (List.length r9.1) (List.flatMap e27 r9.1)] (TI.dn (NX.sq (TS.sq ?_))))))
  have hX := of_do hF
  clear hF
  obtain ⟨r11, h12, hF⟩ := hX
  refine TS.rg (TI.ra 2 [5, 6, 7, 8, 9, 11, 12, 13, 14, 15, 16, 17, 18, 19, 20, 49, 50] (st 116 [(5, pt 0 0), (6, pt 1 0), (7, pt 2 0), (8, pt 3 0), (9, pt 4 0), (11, pt 5 0), (12, pt 6 0), (13, pt 7 0), (14, pt 8 0), (15, iv r5.2.2), (16, pt 9 0), (17, pt 10 0), (18, iv r7.2.2), (19, accV 11 (List.length r9.1)), (20, iv r9.2), (49, ag [iv r1.1.1, iv r1.1.2, iv r1.2.1, iv r1.2.2]), (50, ag [iv r3.1, iv r3.2])]) (TI.cp 31 [ag [iv r1.1.1, iv r1.1.2, iv r1.2.1, iv r1.2.2], ag [iv r3.1, iv r3.2]] (.tuple ⟨[accV 12 (List.length r11.1), iv r11.2]⟩) [accB 41 (List.length r11.1) (List.flatMap e41 r11.1)] (PureSim.ren (hc := []) (fun i => List.getD [] i (0, 0)) (C31 _ _ _ _ _ _ _ h12) (.nil _) (.cons (.flat (by kernel_rfl)) (.cons (.flat (by kernel_rfl)) .nil)) (Rn.tuple' (.cons (Rn.acc (i' := 12) (Nat.le_of_ble_eq_true rfl) rfl) (.cons (.flat (by kernel_rfl)) .nil))) (newflat_cons (accB_flat (fun _ => rfl)) newflat_nil)) (TI.rn 5 [5, 6, 7, 8, 9, 11, 12, 13, 14, 15, 16, 17, 18, 19, 20, 21, 22] [0, 1, 2, 3, 4, 5, 6, 7, 8, 9, 10, 11, 12] (st 116 [(5, pt 0 0), (6, pt 1 0), (7, pt 2 0), (8, pt 3 0), (9, pt 4 0), (11, pt 5 0), (12, pt 6 0), (13, pt 7 0), (14, pt 8 0), (15, iv r5.2.2), (16, pt 9 0), (17, pt 10 0), (18, iv r7.2.2), (19, accV 11 (List.length r9.1)), (20, iv r9.2), (21, accV 12 (List.length r11.1)), (22, iv r11.2)]) (H5_5 p0 p1 p2 p3 p4 p5 p6 p7 p8 p9 p10 p11 r1 r3 r5 r7 r9 r11) (TI.dn (NX.sq (TS.sq (TS.sq ?_)))))))
  have hX := of_do hF
  clear hF
  obtain ⟨r13, h14, hF⟩ := hX
  have hX := of_do hF
  clear hF
  obtain ⟨m21, hm72, hF⟩ := hX
  have hK : NX Try.prog 0 0 [.sq c5.s2.s2.s2.s2.s2.s2.s1.s2, .sq c5.s2.s2.s2.s2.s2.s2.s2] (FinP Try.prog Try.f5 0 (V5 0 r) (N5 0 r)) .normal (st 116 [(5, pt 0 0), (6, pt 1 0), (7, pt 2 0), (8, pt 3 0), (9, pt 4 0), (11, pt 5 0), (12, pt 6 0), (19, accV 11 (List.length r9.1)), (21, accV 12 (List.length r11.1)), (80, .bool m21)]) (H5_8 p0 p1 p2 p3 p4 p5 p6 p7 p8 p9 p10 p11 r1 r3 r9 r11) := by
    refine NX.sq ?_
    cases m21 with
    | true =>
      replace hF := of_pos hF rfl
      refine TS.cdT (.tmp 80) (TS.sq (TS.rg (TI.rn 1 [10] [] (st 116 [(10, .bool false)]) [.dead, .dead, .dead, .dead, .dead, .dead, .dead, .dead, .dead, .dead, .dead, .dead, .dead] (TI.dn (NX.sq (TS.rt (NX.sqR ?_)))))))
      have hF := Option.some.inj hF
      subst hF
      exact ⟨.inr rfl, rfl, .bool false, by kernel_rfl, WkV.flat0 (by kernel_rfl) (Nat.le_of_ble_eq_true rfl)⟩
    | false =>
      replace hF := of_neg hF rfl
      refine TS.cdF (.tmp 80) (TS.sk (NX.sq (TS.sq (TS.sq (TS.rg (TI.ra 1 [5, 6, 7, 8, 9, 11, 12, 19, 21, 23] (st 116 [(5, pt 0 0), (6, pt 1 0), (7, pt 2 0), (8, pt 3 0), (9, pt 4 0), (11, pt 5 0), (12, pt 6 0), (19, accV 11 (List.length r9.1)), (21, accV 12 (List.length r11.1)), (23, iv 0)]) (TI.dn (NX.sq ?_))))))))
      refine TS.bk 0 ?_
      have hX := of_do hF
      clear hF
      obtain ⟨r53, h54, hF⟩ := hX
      refine TS.lp (TL.weak (a2 := (st 116 [(5, pt 0 0), (6, pt 1 0), (7, pt 2 0), (8, pt 3 0), (9, pt 4 0), (11, pt 5 0), (12, pt 6 0), (19, accV 7 (List.length r9.1)), (21, accV 8 (List.length r11.1)), (23, iv 0)])) (h2 := (H5_10 p0 p1 p2 p3 p4 p5 p6 p7 p8 p9 p10 p11 r1 r3 r9 r11)) (Wk.anew (base := 0) (L := 0) (f := [0, 1, 2, 3, 4, 5, 6, 11, 12]) (by decide) (by decide) (Nat.le_of_ble_eq_true rfl) rfl (.cons (At.blk (by kernel_rfl) (RnB.lit (.cons (.flat (by kernel_rfl)) (.cons (.flat (by kernel_rfl)) (.cons (.flat (by kernel_rfl)) (.cons (.flat (by kernel_rfl)) .nil)))))) (.cons (At.blk (by kernel_rfl) (RnB.lit (.cons (.flat (by kernel_rfl)) (.cons (.flat (by kernel_rfl)) .nil)))) (.cons (At.blk (by kernel_rfl) (RnB.lit (.cons (.flat (by kernel_rfl)) (.cons (.flat (by kernel_rfl)) .nil)))) (.cons (At.blk (by kernel_rfl) (RnB.lit (.cons (.flat (by kernel_rfl)) (.cons (.flat (by kernel_rfl)) .nil)))) (.cons (At.blk (by kernel_rfl) (RnB.lit (.cons (.flat (by kernel_rfl)) (.cons (.flat (by kernel_rfl)) .nil)))) (.cons (At.blk (by kernel_rfl) (RnB.lit (.cons (.flat (by kernel_rfl)) (.cons (.flat (by kernel_rfl)) (.cons (.flat (by kernel_rfl)) (.cons (.flat (by kernel_rfl)) .nil)))))) (.cons (At.blk (by kernel_rfl) (RnB.lit (.cons (.flat (by kernel_rfl)) (.cons (.flat (by kernel_rfl)) .nil)))) (.cons (At.acc (by kernel_rfl) rfl (fun _ => rfl)) (.cons (At.acc (by kernel_rfl) rfl (fun _ => rfl)) (.nil _)))))))))) (LRn.stx [5, 6, 7, 8, 9, 11, 12, 19, 21, 23] [pt 0 0, pt 1 0, pt 2 0, pt 3 0, pt 4 0, pt 5 0, pt 6 0, accV 7 (List.length r9.1), accV 8 (List.length r11.1), iv 0] [pt 0 0, pt 1 0, pt 2 0, pt 3 0, pt 4 0, pt 5 0, pt 6 0, accV 11 (List.length r9.1), accV 12 (List.length r11.1), iv 0] (.cons (Rn.ptr _ _ _ (Nat.le_of_ble_eq_true rfl) rfl) (.cons (Rn.ptr _ _ _ (Nat.le_of_ble_eq_true rfl) rfl) (.cons (Rn.ptr _ _ _ (Nat.le_of_ble_eq_true rfl) rfl) (.cons (Rn.ptr _ _ _ (Nat.le_of_ble_eq_true rfl) rfl) (.cons (Rn.ptr _ _ _ (Nat.le_of_ble_eq_true rfl) rfl) (.cons (Rn.ptr _ _ _ (Nat.le_of_ble_eq_true rfl) rfl) (.cons (Rn.ptr _ _ _ (Nat.le_of_ble_eq_true rfl) rfl) (.cons (Rn.acc (Nat.le_of_ble_eq_true rfl) rfl) (.cons (Rn.acc (Nat.le_of_ble_eq_true rfl) rfl) (.cons (.flat (by kernel_rfl)) .nil)))))))))) (by kernel_rfl) (by kernel_rfl) rfl) rfl rfl) (TL.post (L5l0 p0 p1 p2 p3 p4 p5 p6 p7 p8 p9 p10 p11 r1 r3 r9 r11 0 r53 h54) ?_))
      rintro e a1 h1 hp
      rcases r53 with o55 | o56
      · skip
        obtain ⟨rfl, hw⟩ := hp
        refine ⟨(st 116 [(10, .bool false)]), [], (NX.bkR (NX.sqR ?_)), hw⟩
        have hF := Option.some.inj hF
        subst hF
        exact ⟨.inr rfl, rfl, .bool false, by kernel_rfl, WkV.flat0 (by kernel_rfl) (Nat.le_of_ble_eq_true rfl)⟩
      · skip
        obtain ⟨rfl, hw⟩ := hp
        refine ⟨(S5_16), (H5_11 p0 p1 p2 p3 p4 p5 p6 p7 p8 p9 p10 p11 r1 r3), (NX.bkX (NX.sq (TS.sq ?_))), hw⟩
        have hX := of_do hF
        clear hF
        obtain ⟨r57, h58, hF⟩ := hX
        have hX := of_do hF
        clear hF
        obtain ⟨r59, h60, hF⟩ := hX
        have hX := of_do hF
        clear hF
        obtain ⟨r61, h62, hF⟩ := hX
        have hX := of_do hF
        clear hF
        obtain ⟨r63, h64, hF⟩ := hX
        have hX := of_do hF
        clear hF
        obtain ⟨r65, h66, hF⟩ := hX
        have hX := of_do hF
        clear hF
        obtain ⟨m70, hm71, hF⟩ := hX
        have hK : NX Try.prog 0 0 [.sq c5.s2.s2.s2.s2.s2.s2.s2.s2.s2] (FinP Try.prog Try.f5 0 (V5 0 r) (N5 0 r)) .normal (st 116 [(10, .bool m70)]) [.dead, .dead, .dead, .dead, .dead, .dead, .dead] := by
          refine NX.sq (TS.rt ?_)
          have hF := Option.some.inj hF
          subst hF
          exact ⟨.inr rfl, rfl, .bool m70, by kernel_rfl, WkV.flat0 (by kernel_rfl) (Nat.le_of_ble_eq_true rfl)⟩
        rcases Bool.eq_false_or_eq_true (r57 == r65) with hc67 | hc67
        · replace hm71 := of_pos hm71 hc67
          have hX := of_do hm71
          clear hm71
          obtain ⟨r68, h69, hm71⟩ := hX
          have hm71 := Option.some.inj hm71
          subst hm71
          have hT : ∀ e ∈ ([⟨32, [ag [iv p0, iv p1, iv p2, iv p3], ag [iv p6, iv p7], ag [iv p8, iv p9], ag [iv p4, iv p5], ag [iv p10, iv p11]], (H5_11 p0 p1 p2 p3 p4 p5 p6 p7 p8 p9 p10 p11 r1 r3), iv r57, []⟩, ⟨19, [ag [iv p6, iv p7]], (H5_11 p0 p1 p2 p3 p4 p5 p6 p7 p8 p9 p10 p11 r1 r3), ag [iv r59.1, iv r59.2], []⟩, ⟨19, [ag [iv p8, iv p9]], (H5_11 p0 p1 p2 p3 p4 p5 p6 p7 p8 p9 p10 p11 r1 r3), ag [iv r61.1, iv r61.2], []⟩, ⟨19, [ag [iv p10, iv p11]], (H5_11 p0 p1 p2 p3 p4 p5 p6 p7 p8 p9 p10 p11 r1 r3), ag [iv r63.1, iv r63.2], []⟩, ⟨33, [ag [iv r1.1.1, iv r1.1.2, iv r1.2.1, iv r1.2.2], ag [iv r59.1, iv r59.2], ag [iv r61.1, iv r61.2], ag [iv r3.1, iv r3.2], ag [iv r63.1, iv r63.2]], (H5_11 p0 p1 p2 p3 p4 p5 p6 p7 p8 p9 p10 p11 r1 r3), iv r65, []⟩, ⟨22, [], (H5_11 p0 p1 p2 p3 p4 p5 p6 p7 p8 p9 p10 p11 r1 r3), .bool r68, []⟩] : List Entry), PureSim Try.prog e.g e.args e.h e.v e.new := by
            intro e he
            simp only [List.mem_cons, List.not_mem_nil, or_false] at he
            rcases he with rfl | rfl | rfl | rfl | rfl | rfl
            · exact PureSim.ak (C32 _ _ _ _ _ _ _ _ _ _ _ _ _ h58)
            · exact PureSim.ak (C19 _ _ _ h60)
            · exact PureSim.ak (C19 _ _ _ h62)
            · exact PureSim.ak (C19 _ _ _ h64)
            · exact PureSim.ak (C33 _ _ _ _ _ _ _ _ _ _ _ _ _ h66)
            · exact PureSim.ak (C22 _ h69)
          refine TS.dp [⟨32, [ag [iv p0, iv p1, iv p2, iv p3], ag [iv p6, iv p7], ag [iv p8, iv p9], ag [iv p4, iv p5], ag [iv p10, iv p11]], (H5_11 p0 p1 p2 p3 p4 p5 p6 p7 p8 p9 p10 p11 r1 r3), iv r57, []⟩, ⟨19, [ag [iv p6, iv p7]], (H5_11 p0 p1 p2 p3 p4 p5 p6 p7 p8 p9 p10 p11 r1 r3), ag [iv r59.1, iv r59.2], []⟩, ⟨19, [ag [iv p8, iv p9]], (H5_11 p0 p1 p2 p3 p4 p5 p6 p7 p8 p9 p10 p11 r1 r3), ag [iv r61.1, iv r61.2], []⟩, ⟨19, [ag [iv p10, iv p11]], (H5_11 p0 p1 p2 p3 p4 p5 p6 p7 p8 p9 p10 p11 r1 r3), ag [iv r63.1, iv r63.2], []⟩, ⟨33, [ag [iv r1.1.1, iv r1.1.2, iv r1.2.1, iv r1.2.2], ag [iv r59.1, iv r59.2], ag [iv r61.1, iv r61.2], ag [iv r3.1, iv r3.2], ag [iv r63.1, iv r63.2]], (H5_11 p0 p1 p2 p3 p4 p5 p6 p7 p8 p9 p10 p11 r1 r3), iv r65, []⟩, ⟨22, [], (H5_11 p0 p1 p2 p3 p4 p5 p6 p7 p8 p9 p10 p11 r1 r3), .bool r68, []⟩] hT mixed 14 [10] [] (st 116 [(10, .bool r68)]) [.dead, .dead, .dead, .dead, .dead, .dead, .dead] ?_ ?_
          · refine QJ.rn (qs (st 116 [(5, pt 0 0), (6, pt 1 0), (7, pt 2 0), (8, pt 3 0), (9, pt 4 0), (11, pt 5 0), (12, pt 6 0), (97, ag [iv p0, iv p1, iv p2, iv p3]), (98, ag [iv p6, iv p7]), (99, ag [iv p8, iv p9]), (100, ag [iv p4, iv p5]), (101, ag [iv p10, iv p11])]) (H5_11 p0 p1 p2 p3 p4 p5 p6 p7 p8 p9 p10 p11 r1 r3) [] []) 5 (QJ.o { val := iv r57, new := [] } (qOf_call (g := 32) (args := [ag [iv p0, iv p1, iv p2, iv p3], ag [iv p6, iv p7], ag [iv p8, iv p9], ag [iv p4, iv p5], ag [iv p10, iv p11]]) (by kernel_rfl) lookC_hit) (QJ.rn (qs (st 116 [(5, pt 0 0), (6, pt 1 0), (7, pt 2 0), (8, pt 3 0), (9, pt 4 0), (11, pt 5 0), (12, pt 6 0), (97, ag [iv p0, iv p1, iv p2, iv p3]), (98, ag [iv p6, iv p7]), (99, ag [iv p8, iv p9]), (100, ag [iv p4, iv p5]), (101, ag [iv p10, iv p11]), (102, iv r57), (103, ag [iv r1.1.1, iv r1.1.2, iv r1.2.1, iv r1.2.2]), (104, ag [iv p6, iv p7])]) (H5_11 p0 p1 p2 p3 p4 p5 p6 p7 p8 p9 p10 p11 r1 r3) [] []) 2 (QJ.o { val := ag [iv r59.1, iv r59.2], new := [] } (qOf_call (g := 19) (args := [ag [iv p6, iv p7]]) (by kernel_rfl) (lookC_skip (fun hg => absurd (show (32 : Nat) = 19 from hg) (by decide)) lookC_hit)) (QJ.rn (qs (S5_6 p0 p1 p2 p3 p6 p7 p8 p9 p4 p5 p10 p11 r57 r1 r59) (H5_11 p0 p1 p2 p3 p4 p5 p6 p7 p8 p9 p10 p11 r1 r3) [] []) 1 ?_))))
            refine QJ.o { val := ag [iv r61.1, iv r61.2], new := [] } (qOf_call (g := 19) (args := [ag [iv p8, iv p9]]) (by kernel_rfl) (lookC_skip (fun hg => absurd (show (32 : Nat) = 19 from hg) (by decide)) (lookC_skip (by intro _ ha _; have hr := Option.some.inj (h60.symm.trans (Eq.trans (congr (congrArg F19 (show p6 = p8 from congrArg (leafI 0) ha)) (show p7 = p9 from congrArg (leafI 1) ha)) h62)); first | (subst hr; rfl) | (cases hr; done) | (cases hr; rfl)) lookC_hit))) (QJ.rn (qs (S5_3 p0 p1 p2 p3 p6 p7 p8 p9 p4 p5 p10 p11 r57 r1 r59 r61 r3) (H5_11 p0 p1 p2 p3 p4 p5 p6 p7 p8 p9 p10 p11 r1 r3) [] []) 2 ?_)
            exact QJ.o { val := ag [iv r63.1, iv r63.2], new := [] } (qOf_call (g := 19) (args := [ag [iv p10, iv p11]]) (by kernel_rfl) (lookC_skip (fun hg => absurd (show (32 : Nat) = 19 from hg) (by decide)) (lookC_skip (by intro _ ha _; have hr := Option.some.inj (h60.symm.trans (Eq.trans (congr (congrArg F19 (show p6 = p10 from congrArg (leafI 0) ha)) (show p7 = p11 from congrArg (leafI 1) ha)) h64)); first | (subst hr; rfl) | (cases hr; done) | (cases hr; rfl)) (lookC_skip (by intro _ ha _; have hr := Option.some.inj (h62.symm.trans (Eq.trans (congr (congrArg F19 (show p8 = p10 from congrArg (leafI 0) ha)) (show p9 = p11 from congrArg (leafI 1) ha)) h64)); first | (subst hr; rfl) | (cases hr; done) | (cases hr; rfl)) lookC_hit)))) (QJ.dn ⟨rfl, (SJ.o { val := iv r65, new := [] } (qOf_call (g := 33) (args := [ag [iv r1.1.1, iv r1.1.2, iv r1.2.1, iv r1.2.2], ag [iv r59.1, iv r59.2], ag [iv r61.1, iv r61.2], ag [iv r3.1, iv r3.2], ag [iv r63.1, iv r63.2]]) (by kernel_rfl) (lookC_skip (fun hg => absurd (show (32 : Nat) = 33 from hg) (by decide)) (lookC_skip (fun hg => absurd (show (19 : Nat) = 33 from hg) (by decide)) (lookC_skip (fun hg => absurd (show (19 : Nat) = 33 from hg) (by decide)) (lookC_skip (fun hg => absurd (show (19 : Nat) = 33 from hg) (by decide)) lookC_hit))))) (SJ.o { val := .bool true } (q_conv (e := r57 == r65) (b := true) (by kernel_rfl) hc67) (SJ.rn (st 116 [(5, pt 0 0), (6, pt 1 0), (7, pt 2 0), (8, pt 3 0), (9, pt 4 0), (11, pt 5 0), (12, pt 6 0), (97, ag [iv p0, iv p1, iv p2, iv p3]), (98, ag [iv p6, iv p7]), (99, ag [iv p8, iv p9]), (100, ag [iv p4, iv p5]), (101, ag [iv p10, iv p11]), (102, iv r57), (103, ag [iv r1.1.1, iv r1.1.2, iv r1.2.1, iv r1.2.2]), (104, ag [iv p6, iv p7]), (105, ag [iv r59.1, iv r59.2]), (106, ag [iv p8, iv p9]), (107, ag [iv r61.1, iv r61.2]), (108, ag [iv r3.1, iv r3.2]), (109, ag [iv p10, iv p11]), (110, ag [iv r63.1, iv r63.2]), (111, iv r65), (112, .bool true), (113, .bool true)]) (H5_11 p0 p1 p2 p3 p4 p5 p6 p7 p8 p9 p10 p11 r1 r3) 1 (SJ.o { val := .bool r68, new := [] } (qOf_call (g := 22) (args := []) (by kernel_rfl) (lookC_skip (fun hg => absurd (show (32 : Nat) = 22 from hg) (by decide)) (lookC_skip (fun hg => absurd (show (19 : Nat) = 22 from hg) (by decide)) (lookC_skip (fun hg => absurd (show (19 : Nat) = 22 from hg) (by decide)) (lookC_skip (fun hg => absurd (show (19 : Nat) = 22 from hg) (by decide)) (lookC_skip (fun hg => absurd (show (33 : Nat) = 22 from hg) (by decide)) lookC_hit)))))) SJ.la))))⟩)
          exact hK
        · replace hm71 := of_neg hm71 hc67
          have hm71 := Option.some.inj hm71
          subst hm71
          have hT : ∀ e ∈ ([⟨32, [ag [iv p0, iv p1, iv p2, iv p3], ag [iv p6, iv p7], ag [iv p8, iv p9], ag [iv p4, iv p5], ag [iv p10, iv p11]], (H5_11 p0 p1 p2 p3 p4 p5 p6 p7 p8 p9 p10 p11 r1 r3), iv r57, []⟩, ⟨19, [ag [iv p6, iv p7]], (H5_11 p0 p1 p2 p3 p4 p5 p6 p7 p8 p9 p10 p11 r1 r3), ag [iv r59.1, iv r59.2], []⟩, ⟨19, [ag [iv p8, iv p9]], (H5_11 p0 p1 p2 p3 p4 p5 p6 p7 p8 p9 p10 p11 r1 r3), ag [iv r61.1, iv r61.2], []⟩, ⟨19, [ag [iv p10, iv p11]], (H5_11 p0 p1 p2 p3 p4 p5 p6 p7 p8 p9 p10 p11 r1 r3), ag [iv r63.1, iv r63.2], []⟩, ⟨33, [ag [iv r1.1.1, iv r1.1.2, iv r1.2.1, iv r1.2.2], ag [iv r59.1, iv r59.2], ag [iv r61.1, iv r61.2], ag [iv r3.1, iv r3.2], ag [iv r63.1, iv r63.2]], (H5_11 p0 p1 p2 p3 p4 p5 p6 p7 p8 p9 p10 p11 r1 r3), iv r65, []⟩] : List Entry), PureSim Try.prog e.g e.args e.h e.v e.new := by
            intro e he
            simp only [List.mem_cons, List.not_mem_nil, or_false] at he
            rcases he with rfl | rfl | rfl | rfl | rfl
            · exact PureSim.ak (C32 _ _ _ _ _ _ _ _ _ _ _ _ _ h58)
            · exact PureSim.ak (C19 _ _ _ h60)
            · exact PureSim.ak (C19 _ _ _ h62)
            · exact PureSim.ak (C19 _ _ _ h64)
            · exact PureSim.ak (C33 _ _ _ _ _ _ _ _ _ _ _ _ _ h66)
          refine TS.dp [⟨32, [ag [iv p0, iv p1, iv p2, iv p3], ag [iv p6, iv p7], ag [iv p8, iv p9], ag [iv p4, iv p5], ag [iv p10, iv p11]], (H5_11 p0 p1 p2 p3 p4 p5 p6 p7 p8 p9 p10 p11 r1 r3), iv r57, []⟩, ⟨19, [ag [iv p6, iv p7]], (H5_11 p0 p1 p2 p3 p4 p5 p6 p7 p8 p9 p10 p11 r1 r3), ag [iv r59.1, iv r59.2], []⟩, ⟨19, [ag [iv p8, iv p9]], (H5_11 p0 p1 p2 p3 p4 p5 p6 p7 p8 p9 p10 p11 r1 r3), ag [iv r61.1, iv r61.2], []⟩, ⟨19, [ag [iv p10, iv p11]], (H5_11 p0 p1 p2 p3 p4 p5 p6 p7 p8 p9 p10 p11 r1 r3), ag [iv r63.1, iv r63.2], []⟩, ⟨33, [ag [iv r1.1.1, iv r1.1.2, iv r1.2.1, iv r1.2.2], ag [iv r59.1, iv r59.2], ag [iv r61.1, iv r61.2], ag [iv r3.1, iv r3.2], ag [iv r63.1, iv r63.2]], (H5_11 p0 p1 p2 p3 p4 p5 p6 p7 p8 p9 p10 p11 r1 r3), iv r65, []⟩] hT mixed 14 [10] [] (st 116 [(10, .bool false)]) [.dead, .dead, .dead, .dead, .dead, .dead, .dead] ?_ ?_
          · refine QJ.rn (qs (st 116 [(5, pt 0 0), (6, pt 1 0), (7, pt 2 0), (8, pt 3 0), (9, pt 4 0), (11, pt 5 0), (12, pt 6 0), (97, ag [iv p0, iv p1, iv p2, iv p3]), (98, ag [iv p6, iv p7]), (99, ag [iv p8, iv p9]), (100, ag [iv p4, iv p5]), (101, ag [iv p10, iv p11])]) (H5_11 p0 p1 p2 p3 p4 p5 p6 p7 p8 p9 p10 p11 r1 r3) [] []) 5 (QJ.o { val := iv r57, new := [] } (qOf_call (g := 32) (args := [ag [iv p0, iv p1, iv p2, iv p3], ag [iv p6, iv p7], ag [iv p8, iv p9], ag [iv p4, iv p5], ag [iv p10, iv p11]]) (by kernel_rfl) lookC_hit) (QJ.rn (qs (st 116 [(5, pt 0 0), (6, pt 1 0), (7, pt 2 0), (8, pt 3 0), (9, pt 4 0), (11, pt 5 0), (12, pt 6 0), (97, ag [iv p0, iv p1, iv p2, iv p3]), (98, ag [iv p6, iv p7]), (99, ag [iv p8, iv p9]), (100, ag [iv p4, iv p5]), (101, ag [iv p10, iv p11]), (102, iv r57), (103, ag [iv r1.1.1, iv r1.1.2, iv r1.2.1, iv r1.2.2]), (104, ag [iv p6, iv p7])]) (H5_11 p0 p1 p2 p3 p4 p5 p6 p7 p8 p9 p10 p11 r1 r3) [] []) 2 (QJ.o { val := ag [iv r59.1, iv r59.2], new := [] } (qOf_call (g := 19) (args := [ag [iv p6, iv p7]]) (by kernel_rfl) (lookC_skip (fun hg => absurd (show (32 : Nat) = 19 from hg) (by decide)) lookC_hit)) (QJ.rn (qs (S5_6 p0 p1 p2 p3 p6 p7 p8 p9 p4 p5 p10 p11 r57 r1 r59) (H5_11 p0 p1 p2 p3 p4 p5 p6 p7 p8 p9 p10 p11 r1 r3) [] []) 1 ?_))))
            refine QJ.o { val := ag [iv r61.1, iv r61.2], new := [] } (qOf_call (g := 19) (args := [ag [iv p8, iv p9]]) (by kernel_rfl) (lookC_skip (fun hg => absurd (show (32 : Nat) = 19 from hg) (by decide)) (lookC_skip (by intro _ ha _; have hr := Option.some.inj (h60.symm.trans (Eq.trans (congr (congrArg F19 (show p6 = p8 from congrArg (leafI 0) ha)) (show p7 = p9 from congrArg (leafI 1) ha)) h62)); first | (subst hr; rfl) | (cases hr; done) | (cases hr; rfl)) lookC_hit))) (QJ.rn (qs (S5_3 p0 p1 p2 p3 p6 p7 p8 p9 p4 p5 p10 p11 r57 r1 r59 r61 r3) (H5_11 p0 p1 p2 p3 p4 p5 p6 p7 p8 p9 p10 p11 r1 r3) [] []) 2 ?_)
            exact QJ.o { val := ag [iv r63.1, iv r63.2], new := [] } (qOf_call (g := 19) (args := [ag [iv p10, iv p11]]) (by kernel_rfl) (lookC_skip (fun hg => absurd (show (32 : Nat) = 19 from hg) (by decide)) (lookC_skip (by intro _ ha _; have hr := Option.some.inj (h60.symm.trans (Eq.trans (congr (congrArg F19 (show p6 = p10 from congrArg (leafI 0) ha)) (show p7 = p11 from congrArg (leafI 1) ha)) h64)); first | (subst hr; rfl) | (cases hr; done) | (cases hr; rfl)) (lookC_skip (by intro _ ha _; have hr := Option.some.inj (h62.symm.trans (Eq.trans (congr (congrArg F19 (show p8 = p10 from congrArg (leafI 0) ha)) (show p9 = p11 from congrArg (leafI 1) ha)) h64)); first | (subst hr; rfl) | (cases hr; done) | (cases hr; rfl)) lookC_hit)))) (QJ.dn ⟨rfl, (SJ.o { val := iv r65, new := [] } (qOf_call (g := 33) (args := [ag [iv r1.1.1, iv r1.1.2, iv r1.2.1, iv r1.2.2], ag [iv r59.1, iv r59.2], ag [iv r61.1, iv r61.2], ag [iv r3.1, iv r3.2], ag [iv r63.1, iv r63.2]]) (by kernel_rfl) (lookC_skip (fun hg => absurd (show (32 : Nat) = 33 from hg) (by decide)) (lookC_skip (fun hg => absurd (show (19 : Nat) = 33 from hg) (by decide)) (lookC_skip (fun hg => absurd (show (19 : Nat) = 33 from hg) (by decide)) (lookC_skip (fun hg => absurd (show (19 : Nat) = 33 from hg) (by decide)) lookC_hit))))) (SJ.o { val := .bool false } (q_conv (e := r57 == r65) (b := false) (by kernel_rfl) hc67) SJ.la))⟩)
          exact hK
  rcases Bool.eq_false_or_eq_true (!((r13.1 == r7.1.1) && ((r13.2 == r7.1.2) && true))) with hc15 | hc15
  · replace hm72 := of_pos hm72 hc15
    have hm72 := Option.some.inj hm72
    subst hm72
    have hT : ∀ e ∈ ([⟨19, [ag [iv r5.1.1, iv r5.1.2]], (H5_5 p0 p1 p2 p3 p4 p5 p6 p7 p8 p9 p10 p11 r1 r3 r5 r7 r9 r11), ag [iv r13.1, iv r13.2], []⟩] : List Entry), PureSim Try.prog e.g e.args e.h e.v e.new := by
      intro e he
      simp only [List.mem_cons, List.not_mem_nil, or_false] at he
      rcases he with rfl
      · exact PureSim.ak (C19 _ _ _ h14)
    refine TS.dp [⟨19, [ag [iv r5.1.1, iv r5.1.2]], (H5_5 p0 p1 p2 p3 p4 p5 p6 p7 p8 p9 p10 p11 r1 r3 r5 r7 r9 r11), ag [iv r13.1, iv r13.2], []⟩] hT mixed 25 [5, 6, 7, 8, 9, 11, 12, 19, 21, 80] [0, 1, 2, 3, 4, 5, 6, 11, 12] (S5_13 r9 r11) (H5_8 p0 p1 p2 p3 p4 p5 p6 p7 p8 p9 p10 p11 r1 r3 r9 r11) ?_ ?_
    · exact QJ.rn (qs (S5_9 r5 r7 r9 r11) (H5_5 p0 p1 p2 p3 p4 p5 p6 p7 p8 p9 p10 p11 r1 r3 r5 r7 r9 r11) [] []) 1 (QJ.o { val := ag [iv r13.1, iv r13.2], new := [] } (qOf_call (g := 19) (args := [ag [iv r5.1.1, iv r5.1.2]]) (by kernel_rfl) lookC_hit) (QJ.rn (qs (S5_7 r5 r7 r9 r11 r13) (H5_5 p0 p1 p2 p3 p4 p5 p6 p7 p8 p9 p10 p11 r1 r3 r5 r7 r9 r11) [] []) 1 (QJ.o { val := .bool true } (q_conv (e := !((r13.1 == r7.1.1) && ((r13.2 == r7.1.2) && true))) (b := true) (by kernel_rfl) hc15) (QJ.rn (qs (st 116 [(5, pt 0 0), (6, pt 1 0), (7, pt 2 0), (8, pt 3 0), (9, pt 4 0), (11, pt 5 0), (12, pt 6 0), (13, pt 7 0), (14, pt 8 0), (15, iv r5.2.2), (16, pt 9 0), (17, pt 10 0), (18, iv r7.2.2), (19, accV 11 (List.length r9.1)), (20, iv r9.2), (21, accV 12 (List.length r11.1)), (22, iv r11.2), (54, ag [iv r5.1.1, iv r5.1.2]), (55, ag [iv r13.1, iv r13.2]), (56, ag [iv r7.1.1, iv r7.1.2]), (57, .bool true), (58, .bool true), (59, undef), (60, undef), (61, undef), (62, undef), (63, .bool true), (64, .bool true), (65, undef), (66, undef), (67, undef), (68, .bool true), (69, .bool true), (70, undef), (71, undef), (72, undef), (73, .bool true), (74, .bool true), (75, undef), (76, undef), (77, undef), (78, undef)]) (H5_5 p0 p1 p2 p3 p4 p5 p6 p7 p8 p9 p10 p11 r1 r3 r5 r7 r9 r11) [] []) 21 (QJ.dn ⟨rfl, SJ.la⟩)))))
    exact hK
  · replace hm72 := of_neg hm72 hc15
    have hX := of_do hm72
    clear hm72
    obtain ⟨r16, h17, hm72⟩ := hX
    rcases Bool.eq_false_or_eq_true (!((r16.1 == r7.2.1.1) && ((r16.2 == r7.2.1.2) && true))) with hc18 | hc18
    · replace hm72 := of_pos hm72 hc18
      have hm72 := Option.some.inj hm72
      subst hm72
      have hT : ∀ e ∈ ([⟨19, [ag [iv r5.1.1, iv r5.1.2]], (H5_5 p0 p1 p2 p3 p4 p5 p6 p7 p8 p9 p10 p11 r1 r3 r5 r7 r9 r11), ag [iv r13.1, iv r13.2], []⟩, ⟨18, [ag [iv r5.2.1.1, iv r5.2.1.2]], (H5_5 p0 p1 p2 p3 p4 p5 p6 p7 p8 p9 p10 p11 r1 r3 r5 r7 r9 r11), ag [iv r16.1, iv r16.2], []⟩] : List Entry), PureSim Try.prog e.g e.args e.h e.v e.new := by
        intro e he
        simp only [List.mem_cons, List.not_mem_nil, or_false] at he
        rcases he with rfl | rfl
        · exact PureSim.ak (C19 _ _ _ h14)
        · exact PureSim.ak (C18 _ _ _ h17)
      refine TS.dp [⟨19, [ag [iv r5.1.1, iv r5.1.2]], (H5_5 p0 p1 p2 p3 p4 p5 p6 p7 p8 p9 p10 p11 r1 r3 r5 r7 r9 r11), ag [iv r13.1, iv r13.2], []⟩, ⟨18, [ag [iv r5.2.1.1, iv r5.2.1.2]], (H5_5 p0 p1 p2 p3 p4 p5 p6 p7 p8 p9 p10 p11 r1 r3 r5 r7 r9 r11), ag [iv r16.1, iv r16.2], []⟩] hT mixed 25 [5, 6, 7, 8, 9, 11, 12, 19, 21, 80] [0, 1, 2, 3, 4, 5, 6, 11, 12] (S5_13 r9 r11) (H5_8 p0 p1 p2 p3 p4 p5 p6 p7 p8 p9 p10 p11 r1 r3 r9 r11) ?_ ?_
      · refine QJ.rn (qs (S5_9 r5 r7 r9 r11) (H5_5 p0 p1 p2 p3 p4 p5 p6 p7 p8 p9 p10 p11 r1 r3 r5 r7 r9 r11) [] []) 1 (QJ.o { val := ag [iv r13.1, iv r13.2], new := [] } (qOf_call (g := 19) (args := [ag [iv r5.1.1, iv r5.1.2]]) (by kernel_rfl) lookC_hit) (QJ.rn (qs (S5_7 r5 r7 r9 r11 r13) (H5_5 p0 p1 p2 p3 p4 p5 p6 p7 p8 p9 p10 p11 r1 r3 r5 r7 r9 r11) [] []) 1 (QJ.o { val := .bool false } (q_conv (e := !((r13.1 == r7.1.1) && ((r13.2 == r7.1.2) && true))) (b := false) (by kernel_rfl) hc15) (QJ.rn (qs (S5_4 r5 r7 r9 r11 r13) (H5_5 p0 p1 p2 p3 p4 p5 p6 p7 p8 p9 p10 p11 r1 r3 r5 r7 r9 r11) [] []) 2 (QJ.o { val := ag [iv r16.1, iv r16.2], new := [] } (qOf_call (g := 18) (args := [ag [iv r5.2.1.1, iv r5.2.1.2]]) (by kernel_rfl) (lookC_skip (fun hg => absurd (show (19 : Nat) = 18 from hg) (by decide)) lookC_hit)) (QJ.rn (qs (S5_2 r5 r7 r9 r11 r13 r16) (H5_5 p0 p1 p2 p3 p4 p5 p6 p7 p8 p9 p10 p11 r1 r3 r5 r7 r9 r11) [] []) 1 (QJ.o { val := .bool true } (q_conv (e := !((r16.1 == r7.2.1.1) && ((r16.2 == r7.2.1.2) && true))) (b := true) (by kernel_rfl) hc18) (QJ.rn (qs (st 116 [(5, pt 0 0), (6, pt 1 0), (7, pt 2 0), (8, pt 3 0), (9, pt 4 0), (11, pt 5 0), (12, pt 6 0), (13, pt 7 0), (14, pt 8 0), (15, iv r5.2.2), (16, pt 9 0), (17, pt 10 0), (18, iv r7.2.2), (19, accV 11 (List.length r9.1)), (20, iv r9.2), (21, accV 12 (List.length r11.1)), (22, iv r11.2), (54, ag [iv r5.1.1, iv r5.1.2]), (55, ag [iv r13.1, iv r13.2]), (56, ag [iv r7.1.1, iv r7.1.2]), (57, .bool false), (58, .bool false), (59, ag [iv r5.2.1.1, iv r5.2.1.2]), (60, ag [iv r16.1, iv r16.2]), (61, ag [iv r7.2.1.1, iv r7.2.1.2]), (62, .bool true), (63, .bool true), (64, .bool true), (65, undef), (66, undef), (67, undef), (68, .bool true), (69, .bool true), (70, undef), (71, undef), (72, undef), (73, .bool true), (74, .bool true), (75, undef), (76, undef), (77, undef), (78, undef)]) (H5_5 p0 p1 p2 p3 p4 p5 p6 p7 p8 p9 p10 p11 r1 r3 r5 r7 r9 r11) [] []) 16 ?_))))))))
        exact QJ.dn ⟨rfl, SJ.la⟩
      exact hK
    · replace hm72 := of_neg hm72 hc18
      rcases Bool.eq_false_or_eq_true (r5.2.2 != r7.2.2) with hc19 | hc19
      · replace hm72 := of_pos hm72 hc19
        have hm72 := Option.some.inj hm72
        subst hm72
        have hT : ∀ e ∈ ([⟨19, [ag [iv r5.1.1, iv r5.1.2]], (H5_5 p0 p1 p2 p3 p4 p5 p6 p7 p8 p9 p10 p11 r1 r3 r5 r7 r9 r11), ag [iv r13.1, iv r13.2], []⟩, ⟨18, [ag [iv r5.2.1.1, iv r5.2.1.2]], (H5_5 p0 p1 p2 p3 p4 p5 p6 p7 p8 p9 p10 p11 r1 r3 r5 r7 r9 r11), ag [iv r16.1, iv r16.2], []⟩] : List Entry), PureSim Try.prog e.g e.args e.h e.v e.new := by
          intro e he
          simp only [List.mem_cons, List.not_mem_nil, or_false] at he
          rcases he with rfl | rfl
          · exact PureSim.ak (C19 _ _ _ h14)
          · exact PureSim.ak (C18 _ _ _ h17)
        refine TS.dp [⟨19, [ag [iv r5.1.1, iv r5.1.2]], (H5_5 p0 p1 p2 p3 p4 p5 p6 p7 p8 p9 p10 p11 r1 r3 r5 r7 r9 r11), ag [iv r13.1, iv r13.2], []⟩, ⟨18, [ag [iv r5.2.1.1, iv r5.2.1.2]], (H5_5 p0 p1 p2 p3 p4 p5 p6 p7 p8 p9 p10 p11 r1 r3 r5 r7 r9 r11), ag [iv r16.1, iv r16.2], []⟩] hT mixed 25 [5, 6, 7, 8, 9, 11, 12, 19, 21, 80] [0, 1, 2, 3, 4, 5, 6, 11, 12] (S5_13 r9 r11) (H5_8 p0 p1 p2 p3 p4 p5 p6 p7 p8 p9 p10 p11 r1 r3 r9 r11) ?_ ?_
        · refine QJ.rn (qs (S5_9 r5 r7 r9 r11) (H5_5 p0 p1 p2 p3 p4 p5 p6 p7 p8 p9 p10 p11 r1 r3 r5 r7 r9 r11) [] []) 1 (QJ.o { val := ag [iv r13.1, iv r13.2], new := [] } (qOf_call (g := 19) (args := [ag [iv r5.1.1, iv r5.1.2]]) (by kernel_rfl) lookC_hit) (QJ.rn (qs (S5_7 r5 r7 r9 r11 r13) (H5_5 p0 p1 p2 p3 p4 p5 p6 p7 p8 p9 p10 p11 r1 r3 r5 r7 r9 r11) [] []) 1 (QJ.o { val := .bool false } (q_conv (e := !((r13.1 == r7.1.1) && ((r13.2 == r7.1.2) && true))) (b := false) (by kernel_rfl) hc15) (QJ.rn (qs (S5_4 r5 r7 r9 r11 r13) (H5_5 p0 p1 p2 p3 p4 p5 p6 p7 p8 p9 p10 p11 r1 r3 r5 r7 r9 r11) [] []) 2 (QJ.o { val := ag [iv r16.1, iv r16.2], new := [] } (qOf_call (g := 18) (args := [ag [iv r5.2.1.1, iv r5.2.1.2]]) (by kernel_rfl) (lookC_skip (fun hg => absurd (show (19 : Nat) = 18 from hg) (by decide)) lookC_hit)) (QJ.rn (qs (S5_2 r5 r7 r9 r11 r13 r16) (H5_5 p0 p1 p2 p3 p4 p5 p6 p7 p8 p9 p10 p11 r1 r3 r5 r7 r9 r11) [] []) 1 (QJ.o { val := .bool false } (q_conv (e := !((r16.1 == r7.2.1.1) && ((r16.2 == r7.2.1.2) && true))) (b := false) (by kernel_rfl) hc18) (QJ.rn (qs (S5_1 r5 r7 r9 r11 r13 r16) (H5_5 p0 p1 p2 p3 p4 p5 p6 p7 p8 p9 p10 p11 r1 r3 r5 r7 r9 r11) [] []) 4 ?_))))))))
          exact QJ.o { val := .bool true } (q_conv (e := r5.2.2 != r7.2.2) (b := true) (by kernel_rfl) hc19) (QJ.rn (qs (st 116 [(5, pt 0 0), (6, pt 1 0), (7, pt 2 0), (8, pt 3 0), (9, pt 4 0), (11, pt 5 0), (12, pt 6 0), (13, pt 7 0), (14, pt 8 0), (15, iv r5.2.2), (16, pt 9 0), (17, pt 10 0), (18, iv r7.2.2), (19, accV 11 (List.length r9.1)), (20, iv r9.2), (21, accV 12 (List.length r11.1)), (22, iv r11.2), (54, ag [iv r5.1.1, iv r5.1.2]), (55, ag [iv r13.1, iv r13.2]), (56, ag [iv r7.1.1, iv r7.1.2]), (57, .bool false), (58, .bool false), (59, ag [iv r5.2.1.1, iv r5.2.1.2]), (60, ag [iv r16.1, iv r16.2]), (61, ag [iv r7.2.1.1, iv r7.2.1.2]), (62, .bool false), (63, .bool false), (64, .bool false), (65, iv r5.2.2), (66, iv r7.2.2), (67, .bool true), (68, .bool true), (69, .bool true), (70, undef), (71, undef), (72, undef), (73, .bool true), (74, .bool true), (75, undef), (76, undef), (77, undef), (78, undef)]) (H5_5 p0 p1 p2 p3 p4 p5 p6 p7 p8 p9 p10 p11 r1 r3 r5 r7 r9 r11) [] []) 11 (QJ.dn ⟨rfl, SJ.la⟩))
        exact hK
      · replace hm72 := of_neg hm72 hc19
        rcases Bool.eq_false_or_eq_true (r9.2 != r11.2) with hc20 | hc20
        · replace hm72 := of_pos hm72 hc20
          have hm72 := Option.some.inj hm72
          subst hm72
          have hT : ∀ e ∈ ([⟨19, [ag [iv r5.1.1, iv r5.1.2]], (H5_5 p0 p1 p2 p3 p4 p5 p6 p7 p8 p9 p10 p11 r1 r3 r5 r7 r9 r11), ag [iv r13.1, iv r13.2], []⟩, ⟨18, [ag [iv r5.2.1.1, iv r5.2.1.2]], (H5_5 p0 p1 p2 p3 p4 p5 p6 p7 p8 p9 p10 p11 r1 r3 r5 r7 r9 r11), ag [iv r16.1, iv r16.2], []⟩] : List Entry), PureSim Try.prog e.g e.args e.h e.v e.new := by
            intro e he
            simp only [List.mem_cons, List.not_mem_nil, or_false] at he
            rcases he with rfl | rfl
            · exact PureSim.ak (C19 _ _ _ h14)
            · exact PureSim.ak (C18 _ _ _ h17)
          refine TS.dp [⟨19, [ag [iv r5.1.1, iv r5.1.2]], (H5_5 p0 p1 p2 p3 p4 p5 p6 p7 p8 p9 p10 p11 r1 r3 r5 r7 r9 r11), ag [iv r13.1, iv r13.2], []⟩, ⟨18, [ag [iv r5.2.1.1, iv r5.2.1.2]], (H5_5 p0 p1 p2 p3 p4 p5 p6 p7 p8 p9 p10 p11 r1 r3 r5 r7 r9 r11), ag [iv r16.1, iv r16.2], []⟩] hT mixed 25 [5, 6, 7, 8, 9, 11, 12, 19, 21, 80] [0, 1, 2, 3, 4, 5, 6, 11, 12] (S5_13 r9 r11) (H5_8 p0 p1 p2 p3 p4 p5 p6 p7 p8 p9 p10 p11 r1 r3 r9 r11) ?_ ?_
          · refine QJ.rn (qs (S5_9 r5 r7 r9 r11) (H5_5 p0 p1 p2 p3 p4 p5 p6 p7 p8 p9 p10 p11 r1 r3 r5 r7 r9 r11) [] []) 1 (QJ.o { val := ag [iv r13.1, iv r13.2], new := [] } (qOf_call (g := 19) (args := [ag [iv r5.1.1, iv r5.1.2]]) (by kernel_rfl) lookC_hit) (QJ.rn (qs (S5_7 r5 r7 r9 r11 r13) (H5_5 p0 p1 p2 p3 p4 p5 p6 p7 p8 p9 p10 p11 r1 r3 r5 r7 r9 r11) [] []) 1 (QJ.o { val := .bool false } (q_conv (e := !((r13.1 == r7.1.1) && ((r13.2 == r7.1.2) && true))) (b := false) (by kernel_rfl) hc15) (QJ.rn (qs (S5_4 r5 r7 r9 r11 r13) (H5_5 p0 p1 p2 p3 p4 p5 p6 p7 p8 p9 p10 p11 r1 r3 r5 r7 r9 r11) [] []) 2 (QJ.o { val := ag [iv r16.1, iv r16.2], new := [] } (qOf_call (g := 18) (args := [ag [iv r5.2.1.1, iv r5.2.1.2]]) (by kernel_rfl) (lookC_skip (fun hg => absurd (show (19 : Nat) = 18 from hg) (by decide)) lookC_hit)) (QJ.rn (qs (S5_2 r5 r7 r9 r11 r13 r16) (H5_5 p0 p1 p2 p3 p4 p5 p6 p7 p8 p9 p10 p11 r1 r3 r5 r7 r9 r11) [] []) 1 (QJ.o { val := .bool false } (q_conv (e := !((r16.1 == r7.2.1.1) && ((r16.2 == r7.2.1.2) && true))) (b := false) (by kernel_rfl) hc18) (QJ.rn (qs (S5_1 r5 r7 r9 r11 r13 r16) (H5_5 p0 p1 p2 p3 p4 p5 p6 p7 p8 p9 p10 p11 r1 r3 r5 r7 r9 r11) [] []) 4 ?_))))))))
            exact QJ.o { val := .bool false } (q_conv (e := r5.2.2 != r7.2.2) (b := false) (by kernel_rfl) hc19) (QJ.rn (qs (S5_0 r5 r7 r9 r11 r13 r16) (H5_5 p0 p1 p2 p3 p4 p5 p6 p7 p8 p9 p10 p11 r1 r3 r5 r7 r9 r11) [] []) 4 (QJ.o { val := .bool true } (q_conv (e := r9.2 != r11.2) (b := true) (by kernel_rfl) hc20) (QJ.rn (qs (st 116 [(5, pt 0 0), (6, pt 1 0), (7, pt 2 0), (8, pt 3 0), (9, pt 4 0), (11, pt 5 0), (12, pt 6 0), (13, pt 7 0), (14, pt 8 0), (15, iv r5.2.2), (16, pt 9 0), (17, pt 10 0), (18, iv r7.2.2), (19, accV 11 (List.length r9.1)), (20, iv r9.2), (21, accV 12 (List.length r11.1)), (22, iv r11.2), (54, ag [iv r5.1.1, iv r5.1.2]), (55, ag [iv r13.1, iv r13.2]), (56, ag [iv r7.1.1, iv r7.1.2]), (57, .bool false), (58, .bool false), (59, ag [iv r5.2.1.1, iv r5.2.1.2]), (60, ag [iv r16.1, iv r16.2]), (61, ag [iv r7.2.1.1, iv r7.2.1.2]), (62, .bool false), (63, .bool false), (64, .bool false), (65, iv r5.2.2), (66, iv r7.2.2), (67, .bool false), (68, .bool false), (69, .bool false), (70, iv r9.2), (71, iv r11.2), (72, .bool true), (73, .bool true), (74, .bool true), (75, undef), (76, undef), (77, undef), (78, undef)]) (H5_5 p0 p1 p2 p3 p4 p5 p6 p7 p8 p9 p10 p11 r1 r3 r5 r7 r9 r11) [] []) 6 (QJ.dn ⟨rfl, SJ.la⟩))))
          exact hK
        · replace hm72 := of_neg hm72 hc20
          have hm72 := Option.some.inj hm72
          subst hm72
          have hT : ∀ e ∈ ([⟨19, [ag [iv r5.1.1, iv r5.1.2]], (H5_5 p0 p1 p2 p3 p4 p5 p6 p7 p8 p9 p10 p11 r1 r3 r5 r7 r9 r11), ag [iv r13.1, iv r13.2], []⟩, ⟨18, [ag [iv r5.2.1.1, iv r5.2.1.2]], (H5_5 p0 p1 p2 p3 p4 p5 p6 p7 p8 p9 p10 p11 r1 r3 r5 r7 r9 r11), ag [iv r16.1, iv r16.2], []⟩] : List Entry), PureSim Try.prog e.g e.args e.h e.v e.new := by
            intro e he
            simp only [List.mem_cons, List.not_mem_nil, or_false] at he
            rcases he with rfl | rfl
            · exact PureSim.ak (C19 _ _ _ h14)
            · exact PureSim.ak (C18 _ _ _ h17)
          refine TS.dp [⟨19, [ag [iv r5.1.1, iv r5.1.2]], (H5_5 p0 p1 p2 p3 p4 p5 p6 p7 p8 p9 p10 p11 r1 r3 r5 r7 r9 r11), ag [iv r13.1, iv r13.2], []⟩, ⟨18, [ag [iv r5.2.1.1, iv r5.2.1.2]], (H5_5 p0 p1 p2 p3 p4 p5 p6 p7 p8 p9 p10 p11 r1 r3 r5 r7 r9 r11), ag [iv r16.1, iv r16.2], []⟩] hT mixed 25 [5, 6, 7, 8, 9, 11, 12, 19, 21, 80] [0, 1, 2, 3, 4, 5, 6, 11, 12] (st 116 [(5, pt 0 0), (6, pt 1 0), (7, pt 2 0), (8, pt 3 0), (9, pt 4 0), (11, pt 5 0), (12, pt 6 0), (19, accV 11 (List.length r9.1)), (21, accV 12 (List.length r11.1)), (80, .bool ((List.length r9.1 : Int) != (List.length r11.1 : Int)))]) (H5_8 p0 p1 p2 p3 p4 p5 p6 p7 p8 p9 p10 p11 r1 r3 r9 r11) ?_ ?_
          · refine QJ.rn (qs (S5_9 r5 r7 r9 r11) (H5_5 p0 p1 p2 p3 p4 p5 p6 p7 p8 p9 p10 p11 r1 r3 r5 r7 r9 r11) [] []) 1 (QJ.o { val := ag [iv r13.1, iv r13.2], new := [] } (qOf_call (g := 19) (args := [ag [iv r5.1.1, iv r5.1.2]]) (by kernel_rfl) lookC_hit) (QJ.rn (qs (S5_7 r5 r7 r9 r11 r13) (H5_5 p0 p1 p2 p3 p4 p5 p6 p7 p8 p9 p10 p11 r1 r3 r5 r7 r9 r11) [] []) 1 (QJ.o { val := .bool false } (q_conv (e := !((r13.1 == r7.1.1) && ((r13.2 == r7.1.2) && true))) (b := false) (by kernel_rfl) hc15) (QJ.rn (qs (S5_4 r5 r7 r9 r11 r13) (H5_5 p0 p1 p2 p3 p4 p5 p6 p7 p8 p9 p10 p11 r1 r3 r5 r7 r9 r11) [] []) 2 (QJ.o { val := ag [iv r16.1, iv r16.2], new := [] } (qOf_call (g := 18) (args := [ag [iv r5.2.1.1, iv r5.2.1.2]]) (by kernel_rfl) (lookC_skip (fun hg => absurd (show (19 : Nat) = 18 from hg) (by decide)) lookC_hit)) (QJ.rn (qs (S5_2 r5 r7 r9 r11 r13 r16) (H5_5 p0 p1 p2 p3 p4 p5 p6 p7 p8 p9 p10 p11 r1 r3 r5 r7 r9 r11) [] []) 1 (QJ.o { val := .bool false } (q_conv (e := !((r16.1 == r7.2.1.1) && ((r16.2 == r7.2.1.2) && true))) (b := false) (by kernel_rfl) hc18) (QJ.rn (qs (S5_1 r5 r7 r9 r11 r13 r16) (H5_5 p0 p1 p2 p3 p4 p5 p6 p7 p8 p9 p10 p11 r1 r3 r5 r7 r9 r11) [] []) 4 ?_))))))))
            exact QJ.o { val := .bool false } (q_conv (e := r5.2.2 != r7.2.2) (b := false) (by kernel_rfl) hc19) (QJ.rn (qs (S5_0 r5 r7 r9 r11 r13 r16) (H5_5 p0 p1 p2 p3 p4 p5 p6 p7 p8 p9 p10 p11 r1 r3 r5 r7 r9 r11) [] []) 4 (QJ.o { val := .bool false } (q_conv (e := r9.2 != r11.2) (b := false) (by kernel_rfl) hc20) (QJ.rn (qs (st 116 [(5, pt 0 0), (6, pt 1 0), (7, pt 2 0), (8, pt 3 0), (9, pt 4 0), (11, pt 5 0), (12, pt 6 0), (13, pt 7 0), (14, pt 8 0), (15, iv r5.2.2), (16, pt 9 0), (17, pt 10 0), (18, iv r7.2.2), (19, accV 11 (List.length r9.1)), (20, iv r9.2), (21, accV 12 (List.length r11.1)), (22, iv r11.2), (54, ag [iv r5.1.1, iv r5.1.2]), (55, ag [iv r13.1, iv r13.2]), (56, ag [iv r7.1.1, iv r7.1.2]), (57, .bool false), (58, .bool false), (59, ag [iv r5.2.1.1, iv r5.2.1.2]), (60, ag [iv r16.1, iv r16.2]), (61, ag [iv r7.2.1.1, iv r7.2.1.2]), (62, .bool false), (63, .bool false), (64, .bool false), (65, iv r5.2.2), (66, iv r7.2.2), (67, .bool false), (68, .bool false), (69, .bool false), (70, iv r9.2), (71, iv r11.2), (72, .bool false), (73, .bool false), (74, .bool false), (75, accV 11 (List.length r9.1)), (76, iv (List.length r9.1 : Int)), (77, accV 12 (List.length r11.1)), (78, iv (List.length r11.1 : Int))]) (H5_5 p0 p1 p2 p3 p4 p5 p6 p7 p8 p9 p10 p11 r1 r3 r5 r7 r9 r11) [] []) 6 (QJ.dn ⟨rfl, SJ.la⟩))))
          exact hK
theorem C5 (p0 : Int) (p1 : Int) (p2 : Int) (p3 : Int) (p4 : Int) (p5 : Int) (p6 : Int) (p7 : Int) (p8 : Int) (p9 : Int) (p10 : Int) (p11 : Int) (r : Bool) (hF : F5 p0 p1 p2 p3 p4 p5 p6 p7 p8 p9 p10 p11 = some r) : PureSim Try.prog 5 [ag [iv p0, iv p1, iv p2, iv p3], ag [iv p4, iv p5], ag [iv p6, iv p7], ag [iv p8, iv p9], ag [iv p10, iv p11]] [] (V5 0 r) (N5 0 r) :=
  PureSim.of_Fin Try.func5 (c := c5) (by kernel_rfl) (by kernel_rfl) 0 rfl [0, 1, 2, 3, 4] [] (by kernel_rfl) (B5 p0 p1 p2 p3 p4 p5 p6 p7 p8 p9 p10 p11 r hF)

end Go.Proofs.Ytenjelagfbceeaa
