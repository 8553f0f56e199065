/- What functions of the program compute, and that they do. -/
import Derived.Test.YtdekbjfjbbdjgaaGW
set_option linter.unusedVariables false
set_option linter.unusedSimpArgs false
set_option maxRecDepth 100000
set_option maxHeartbeats 4000000
namespace Go.Proofs.Ytdekbjfjbbdjgaa
open Go Go.Cl
noncomputable section
noncomputable def c27 : Code := Try.f27.code
def H27_0 (p2 : (List (Int × Int))) (p3 : (List Int)) (p0 : Int) (p1 : Int) (z86 : (Int × Int × Int × Int × Int × Int × Int)) (o61 : (Int × Int)) (r63 : ((Int × Int) × (Int × Int))) : List Blk := [ab 57 e57 p2, ab 3 e3 p3, cl 24 [iv p0, iv p1, sv 0 p2.length ANY], cl 83 [iv z86.2.2.2.1, iv z86.2.2.2.2.1], cl 83 [iv z86.2.2.2.2.2.1, iv z86.2.2.2.2.2.2], cl 57 [iv o61.1, iv o61.2], cl 83 [iv r63.1.1, iv r63.1.2], cl 83 [iv r63.2.1, iv r63.2.2]]
def S27_1 (z86 : (Int × Int × Int × Int × Int × Int × Int)) (p3 : (List Int)) (r63 : ((Int × Int) × (Int × Int))) : CAct := (st 89 [(2, pt 2 0), (6, pt 3 0), (7, pt 4 0), (8, iv z86.1), (9, iv z86.2.1), (12, pt 5 0), (13, pt 6 0), (14, pt 7 0), (30, sv 1 p3.length ANY), (31, iv (p3.length : Int)), (32, iv z86.2.2.1), (61, ag [iv z86.2.2.2.2.2.1, iv z86.2.2.2.2.2.2]), (62, ag [iv r63.1.1, iv r63.1.2])])
def S27_2 (z86 : (Int × Int × Int × Int × Int × Int × Int)) (o55 : Int) (p3 : (List Int)) (p2 : (List (Int × Int))) : CAct := (st 89 [(2, pt 2 0), (6, pt 3 0), (7, pt 4 0), (8, iv z86.1), (9, iv z86.2.1), (10, iv z86.2.2.1), (11, iv o55), (30, sv 1 p3.length ANY), (31, iv (p3.length : Int)), (32, iv z86.2.2.1), (37, iv o55), (41, iv (w64 ((p2.length : Int) - 1)))])
def H27_3 (p2 : (List (Int × Int))) (p3 : (List Int)) (p0 : Int) (p1 : Int) (z86 : (Int × Int × Int × Int × Int × Int × Int)) : List Blk := [ab 57 e57 p2, ab 3 e3 p3, cl 24 [iv p0, iv p1, sv 0 p2.length ANY], cl 83 [iv z86.2.2.2.1, iv z86.2.2.2.2.1], cl 83 [iv z86.2.2.2.2.2.1, iv z86.2.2.2.2.2.2]]
def S27_4 (z86 : (Int × Int × Int × Int × Int × Int × Int)) (p3 : (List Int)) : CAct := (st 89 [(2, pt 2 0), (6, pt 3 0), (7, pt 4 0), (8, iv z86.1), (9, iv z86.2.1), (12, pt 5 0), (14, pt 7 0), (30, sv 1 p3.length ANY), (31, iv (p3.length : Int)), (32, iv z86.2.2.1), (71, .bool (decide (z86.2.1 < 0)))])
def S27_5 (z86 : (Int × Int × Int × Int × Int × Int × Int)) (o61 : (Int × Int)) (p3 : (List Int)) : CAct := (st 89 [(2, pt 2 0), (6, pt 3 0), (7, pt 4 0), (8, iv (w64 (z86.1 + (w64 (z86.2.1 * o61.2))))), (9, iv (w64 (0 - z86.2.1))), (30, sv 1 p3.length ANY), (31, iv (p3.length : Int)), (32, iv (w64 (z86.2.2.1 + 1)))])
def S27_6 (z86 : (Int × Int × Int × Int × Int × Int × Int)) (o61 : (Int × Int)) (p3 : (List Int)) : CAct := (st 89 [(2, pt 2 0), (6, pt 3 0), (7, pt 4 0), (8, iv (w64 (z86.1 + (w64 (z86.2.1 * o61.2))))), (9, iv (w64 (0 - z86.2.1))), (30, sv 1 p3.length ANY), (31, iv (p3.length : Int)), (32, iv z86.2.2.1)])
def S27_7 (z86 : (Int × Int × Int × Int × Int × Int × Int)) (o61 : (Int × Int)) (p3 : (List Int)) : CAct := (st 89 [(2, pt 2 0), (6, pt 3 0), (7, pt 4 0), (8, iv (w64 (z86.1 + (w64 (z86.2.1 * o61.2))))), (9, iv z86.2.1), (30, sv 1 p3.length ANY), (31, iv (p3.length : Int)), (32, iv z86.2.2.1)])
def S27_8 (z86 : (Int × Int × Int × Int × Int × Int × Int)) (p3 : (List Int)) : CAct := (st 89 [(2, pt 2 0), (6, pt 3 0), (7, pt 4 0), (8, iv z86.1), (9, iv z86.2.1), (12, pt 5 0), (14, pt 7 0), (30, sv 1 p3.length ANY), (31, iv (p3.length : Int)), (32, iv z86.2.2.1)])
def H27_9 (p2 : (List (Int × Int))) (p3 : (List Int)) (p0 : Int) (p1 : Int) : List Blk := [ab 57 e57 p2, ab 3 e3 p3, cl 24 [iv p0, iv p1, sv 0 p2.length ANY], cl 83 [iv 0, iv 0], cl 83 [iv 0, iv 0]]
def S27_10 (z86 : (Int × Int × Int × Int × Int × Int × Int)) (p3 : (List Int)) : CAct := (st 89 [(2, pt 2 0), (6, pt 3 0), (7, pt 4 0), (8, iv z86.1), (9, iv z86.2.1), (12, pt 5 0), (30, sv 1 p3.length ANY), (31, iv (p3.length : Int)), (32, iv z86.2.2.1)])
def S27_11 (p3 : (List Int)) : CAct := (st 89 [(2, pt 2 0), (6, pt 3 0), (7, pt 4 0), (8, iv 0), (9, iv 1), (30, sv 1 p3.length ANY), (31, iv (p3.length : Int)), (32, iv 0)])
def S27_12 (p3 : (List Int)) : CAct := (st 89 [(1, sv 1 p3.length ANY), (2, pt 2 0), (21, iv (p3.length : Int))])
def H27_13 (p2 : (List (Int × Int))) (p3 : (List Int)) : List Blk := [ab 57 e57 p2, ab 3 e3 p3]
def F27l0 (p0 : Int) (p1 : Int) (p2 : (List (Int × Int))) (p3 : (List Int)) (z86 : (Int × Int × Int × Int × Int × Int × Int)) : Option (Int ⊕ (Int × Int × Int × Int × Int)) :=
    if decide (z86.2.2.1 < (p3.length : Int)) then
      if (0 : Int) ≤ z86.2.2.1 ∧ z86.2.2.1 < (p3.length : Int) then
        some (List.getD p3 (Int.toNat z86.2.2.1) 0) >>= fun o55 =>
        F51 0 o55 (w64 ((p2.length : Int) - 1)) >>= fun r57 =>
        (
          if r57 then
            some (false)
          else
            some (true)
        : Option Bool) >>= fun m59 =>
        if m59 then
          some (.inl 6)
        else
          if (0 : Int) ≤ o55 ∧ o55 < (p2.length : Int) then
            some (List.getD p2 (Int.toNat o55) (0, 0)) >>= fun o61 =>
            F55 p0 p1 p2 o61.1 >>= fun r63 =>
            if z86.2.2.1 == 0 then
              (
                if decide (z86.2.1 < 0) then
                  some (r63.2.1, r63.2.2)
                else
                  some (r63.1.1, r63.1.2)
              : Option (Int × Int)) >>= fun m71 =>
              F27l0 p0 p1 p2 p3 ((w64 (z86.1 + (w64 (z86.2.1 * o61.2)))), (w64 (0 - z86.2.1)), (w64 (z86.2.2.1 + 1)), r63.2.1, r63.2.2, m71.1, m71.2)
            else
              (
                if !((z86.2.2.2.2.2.1 == r63.1.1) && ((z86.2.2.2.2.2.2 == r63.1.2) && true)) then
                  some (!((z86.2.2.2.2.2.1 == r63.2.1) && ((z86.2.2.2.2.2.2 == r63.2.2) && true)))
                else
                  some (false)
              : Option Bool) >>= fun m75 =>
              if m75 then
                some (.inl 5)
              else
                (
                  if decide (z86.2.1 < 0) then
                    some (r63.2.1, r63.2.2)
                  else
                    some (r63.1.1, r63.1.2)
                : Option (Int × Int)) >>= fun m81 =>
                F27l0 p0 p1 p2 p3 ((w64 (z86.1 + (w64 (z86.2.1 * o61.2)))), (w64 (0 - z86.2.1)), (w64 (z86.2.2.1 + 1)), z86.2.2.2.1, z86.2.2.2.2.1, m81.1, m81.2)
          else none
      else none
    else
      some (.inr (z86.1, z86.2.2.2.1, z86.2.2.2.2.1, z86.2.2.2.2.2.1, z86.2.2.2.2.2.2))
  partial_fixpoint
def F27 (p0 : Int) (p1 : Int) (p2 : (List (Int × Int))) (p3 : (List Int)) : Option Int :=
  F23 p0 p1 p2 >>= fun r1 =>
  if r1 != 0 then
    some r1
  else
    F51 2 (p3.length : Int) 60 >>= fun r4 =>
    (
      if r4 then
        some ((Int.tmod (p3.length : Int) 2) != 0)
      else
        some (true)
    : Option Bool) >>= fun m6 =>
    if m6 then
      some 4
    else
      F27l0 p0 p1 p2 p3 (0, 1, 0, 0, 0, 0, 0) >>= fun r87 =>
      match r87 with
      | .inl o89 =>
        some o89
      | .inr o90 =>
        if !((o90.2.2.2.1 == o90.2.1) && ((o90.2.2.2.2 == o90.2.2.1) && true)) then
          some 5
        else
          if o90.1 == 0 then
            some 12
          else
            some 0
def V27 (b : Nat) (r : Int) : Value := iv r
def N27 (b : Nat) (r : Int) : List Blk := []
def P27l0 (p0 : Int) (p1 : Int) (p2 : (List (Int × Int))) (p3 : (List Int)) (r : (Int ⊕ (Int × Int × Int × Int × Int))) : Post := fun e a h => (match r with | .inl q0 => e = .ret ∧ Wk Try.prog 2 2 a h (st 89 [(4, iv q0)]) (H27_13 p2 p3) | .inr q0 => e = .exit 0 ∧ Wk Try.prog 2 2 a h (st 89 [(6, pt 2 0), (7, pt 3 0), (8, iv q0.1)]) [ab 57 e57 p2, ab 3 e3 p3, cl 83 [iv q0.2.1, iv q0.2.2.1], cl 83 [iv q0.2.2.2.1, iv q0.2.2.2.2]])
theorem L27l0 (p0 : Int) (p1 : Int) (p2 : (List (Int × Int))) (p3 : (List Int)) (v20 : Int) (v21 : Int) (v22 : Int) (v23 : Int) (v24 : Int) (v25 : Int) (v26 : Int) (r : (Int ⊕ (Int × Int × Int × Int × Int))) (hF : F27l0 p0 p1 p2 p3 (v20, v21, v22, v23, v24, v25, v26) = some r) : TL Try.prog 2 2 c27.s2.s2.s2.s2.s2.s1.s2.bd.bd (st 89 [(2, pt 2 0), (6, pt 3 0), (7, pt 4 0), (8, iv v20), (9, iv v21), (30, sv 1 p3.length ANY), (31, iv (p3.length : Int)), (32, iv v22)]) [ab 57 e57 p2, ab 3 e3 p3, cl 24 [iv p0, iv p1, sv 0 p2.length ANY], cl 83 [iv v23, iv v24], cl 83 [iv v25, iv v26]] (P27l0 p0 p1 p2 p3 r) := by
  refine F27l0.partial_correctness p0 p1 p2 p3 (motive := fun z86 r => TL Try.prog 2 2 c27.s2.s2.s2.s2.s2.s1.s2.bd.bd (st 89 [(2, pt 2 0), (6, pt 3 0), (7, pt 4 0), (8, iv z86.1), (9, iv z86.2.1), (30, sv 1 p3.length ANY), (31, iv (p3.length : Int)), (32, iv z86.2.2.1)]) (H27_3 p2 p3 p0 p1 z86) (P27l0 p0 p1 p2 p3 r)) ?_ (v20, v21, v22, v23, v24, v25, v26) r hF
  clear hF r v20 v21 v22 v23 v24 v25 v26
  intro again ih z86 r hF
  refine TL.round (TS.sq (TS.rg (TI.ra 1 [2, 6, 7, 8, 9, 30, 31, 32, 33] (st 89 [(2, pt 2 0), (6, pt 3 0), (7, pt 4 0), (8, iv z86.1), (9, iv z86.2.1), (30, sv 1 p3.length ANY), (31, iv (p3.length : Int)), (32, iv z86.2.2.1), (33, .bool (decide (z86.2.2.1 < (p3.length : Int))))]) (TI.dn (NX.sq (TS.sq ?_))))))
  refine TS.cd (.tmp 33) (decide (z86.2.2.1 < (p3.length : Int))) (fun hc53 => ?_) (fun hc53 => ?_)
  · replace hF := of_pos hF hc53
    refine TS.sk (NX.sq (TS.sq (TS.bk 1 (TS.sq ?_))))
    have hX := of_guard hF
    clear hF
    obtain ⟨hg54, hF⟩ := hX
    have hX := of_do hF
    clear hF
    obtain ⟨o55, h56, hF⟩ := hX
    replace h56 := Option.some.inj h56
    refine TS.rg (TI.ra 1 [2, 6, 7, 8, 9, 30, 31, 32, 34] (st 89 [(2, pt 2 0), (6, pt 3 0), (7, pt 4 0), (8, iv z86.1), (9, iv z86.2.1), (30, sv 1 p3.length ANY), (31, iv (p3.length : Int)), (32, iv z86.2.2.1), (34, iv z86.2.2.1)]) (TI.o { val := .pointer (some ⟨1, 0 + (Int.toNat z86.2.2.1) * 1, none⟩) } (q_ixS 1 0 ((Int.toNat z86.2.2.1) * 1) (by kernel_rfl) hg54) [2, 6, 7, 8, 9, 30, 31, 32, 34, 35] [0, 1, 2, 3, 4] (st 89 [(2, pt 2 0), (6, pt 3 0), (7, pt 4 0), (8, iv z86.1), (9, iv z86.2.1), (30, sv 1 p3.length ANY), (31, iv (p3.length : Int)), (32, iv z86.2.2.1), (34, iv z86.2.2.1), (35, .pointer (some ⟨1, 0 + (Int.toNat z86.2.2.1) * 1, none⟩))]) (H27_3 p2 p3 p0 p1 z86) (TI.o { val := iv o55 } (q_n1a Try.prog (H27_3 p2 p3 p0 p1 z86) 3 1 (0 + (Int.toNat z86.2.2.1) * 1) p3 e3 1 3 (Int.toNat z86.2.2.1) 0 0 h56) [2, 6, 7, 8, 9, 30, 31, 32, 34, 36] [0, 1, 2, 3, 4] (st 89 [(2, pt 2 0), (6, pt 3 0), (7, pt 4 0), (8, iv z86.1), (9, iv z86.2.1), (30, sv 1 p3.length ANY), (31, iv (p3.length : Int)), (32, iv z86.2.2.1), (34, iv z86.2.2.1), (36, iv o55)]) (H27_3 p2 p3 p0 p1 z86) (TI.ra 2 [2, 6, 7, 8, 9, 10, 11, 30, 31, 32] (st 89 [(2, pt 2 0), (6, pt 3 0), (7, pt 4 0), (8, iv z86.1), (9, iv z86.2.1), (10, iv z86.2.2.1), (11, iv o55), (30, sv 1 p3.length ANY), (31, iv (p3.length : Int)), (32, iv z86.2.2.1)]) (TI.dn (NX.sq (TS.sq (TS.sq ?_))))))))
    have hX := of_do hF
    clear hF
    obtain ⟨r57, h58, hF⟩ := hX
    have hX := of_do hF
    clear hF
    obtain ⟨m59, hm85, hF⟩ := hX
    have hK : NX Try.prog 2 2 [.sq c27.s2.s2.s2.s2.s2.s1.s2.bd.bd.s2.s2.s1.bd.s2.s1.s2, .sq c27.s2.s2.s2.s2.s2.s1.s2.bd.bd.s2.s2.s1.bd.s2.s2, .bk 1, .sq c27.s2.s2.s2.s2.s2.s1.s2.bd.bd.s2.s2.s2] (Rd Try.prog 2 2 c27.s2.s2.s2.s2.s2.s1.s2.bd.bd (P27l0 p0 p1 p2 p3 r)) .normal (st 89 [(2, pt 2 0), (6, pt 3 0), (7, pt 4 0), (8, iv z86.1), (9, iv z86.2.1), (10, iv z86.2.2.1), (11, iv o55), (30, sv 1 p3.length ANY), (31, iv (p3.length : Int)), (32, iv z86.2.2.1), (43, .bool m59)]) (H27_3 p2 p3 p0 p1 z86) := by
      refine NX.sq ?_
      cases m59 with
      | true =>
        replace hF := of_pos hF rfl
        refine TS.cdT (.tmp 43) (TS.sq (TS.rg (TI.rn 1 [4] [0, 1] (st 89 [(4, iv 6)]) [ab 57 e57 p2, ab 3 e3 p3, .dead, .dead, .dead] (TI.dn (NX.sq (TS.rt (NX.sqR (NX.bkR ?_))))))))
        refine NX.sqR ?_
        have hF := Option.some.inj hF
        subst hF
        exact Rd.out (e := .ret) (by intro h; cases h) (And.intro rfl (Wk.an [] (.ac (.ac (.nil _))) [iv 6] (.fl .nil)))
      | false =>
        replace hF := of_neg hF rfl
        refine TS.cdF (.tmp 43) (TS.sk (NX.sq (TS.sq ?_)))
        have hX := of_guard hF
        clear hF
        obtain ⟨hg60, hF⟩ := hX
        have hX := of_do hF
        clear hF
        obtain ⟨o61, h62, hF⟩ := hX
        replace h62 := Option.some.inj h62
        refine TS.rg (TI.ra 3 [2, 6, 7, 8, 9, 10, 30, 31, 32, 45, 46] (st 89 [(2, pt 2 0), (6, pt 3 0), (7, pt 4 0), (8, iv z86.1), (9, iv z86.2.1), (10, iv z86.2.2.1), (30, sv 1 p3.length ANY), (31, iv (p3.length : Int)), (32, iv z86.2.2.1), (45, sv 0 p2.length ANY), (46, iv o55)]) (TI.o { val := .pointer (some ⟨0, 0 + (Int.toNat o55) * 2, none⟩) } (q_ixS 0 0 ((Int.toNat o55) * 2) (by kernel_rfl) hg60) [2, 6, 7, 8, 9, 10, 30, 31, 32, 47] [0, 1, 2, 3, 4] (st 89 [(2, pt 2 0), (6, pt 3 0), (7, pt 4 0), (8, iv z86.1), (9, iv z86.2.1), (10, iv z86.2.2.1), (30, sv 1 p3.length ANY), (31, iv (p3.length : Int)), (32, iv z86.2.2.1), (47, .pointer (some ⟨0, 0 + (Int.toNat o55) * 2, none⟩))]) (H27_3 p2 p3 p0 p1 z86) (TI.o { val := ag [iv o61.1, iv o61.2] } (q_nAa Try.prog (H27_3 p2 p3 p0 p1 z86) 57 0 (0 + (Int.toNat o55) * 2) p2 e57 2 57 (Int.toNat o55) (0, 0) h62) [2, 6, 7, 8, 9, 10, 30, 31, 32, 48] [0, 1, 2, 3, 4] (st 89 [(2, pt 2 0), (6, pt 3 0), (7, pt 4 0), (8, iv z86.1), (9, iv z86.2.1), (10, iv z86.2.2.1), (30, sv 1 p3.length ANY), (31, iv (p3.length : Int)), (32, iv z86.2.2.1), (48, ag [iv o61.1, iv o61.2])]) (H27_3 p2 p3 p0 p1 z86) (TI.rn 2 [2, 6, 7, 8, 9, 10, 12, 30, 31, 32] [0, 1, 2, 3, 4, 5] (st 89 [(2, pt 2 0), (6, pt 3 0), (7, pt 4 0), (8, iv z86.1), (9, iv z86.2.1), (10, iv z86.2.2.1), (12, pt 5 0), (30, sv 1 p3.length ANY), (31, iv (p3.length : Int)), (32, iv z86.2.2.1)]) [ab 57 e57 p2, ab 3 e3 p3, cl 24 [iv p0, iv p1, sv 0 p2.length ANY], cl 83 [iv z86.2.2.2.1, iv z86.2.2.2.2.1], cl 83 [iv z86.2.2.2.2.2.1, iv z86.2.2.2.2.2.2], cl 57 [iv o61.1, iv o61.2]] (TI.dn (NX.sq (TS.sq ?_)))))))
        have hX := of_do hF
        clear hF
        obtain ⟨r63, h64, hF⟩ := hX
        refine TS.rg (TI.ra 3 [2, 6, 7, 8, 9, 10, 12, 30, 31, 32, 50, 52] (st 89 [(2, pt 2 0), (6, pt 3 0), (7, pt 4 0), (8, iv z86.1), (9, iv z86.2.1), (10, iv z86.2.2.1), (12, pt 5 0), (30, sv 1 p3.length ANY), (31, iv (p3.length : Int)), (32, iv z86.2.2.1), (50, ag [iv p0, iv p1, sv 0 p2.length ANY]), (52, iv o61.1)]) (TI.cp 55 [ag [iv p0, iv p1, sv 0 p2.length ANY], iv o61.1] (.tuple ⟨[ag [iv r63.1.1, iv r63.1.2], ag [iv r63.2.1, iv r63.2.2]]⟩) [] (PureSim.ren (hc := [ab 57 e57 p2]) (fun i => List.getD [(0, 0)] i (0, 0)) (C55 _ _ _ _ _ h64) (.ac (.nil _)) (.cons (Rn.agg' (.fl (.fl (.cons (Rn.any _ _ _ _ _ _ (Nat.le_of_ble_eq_true rfl) rfl rfl (by decide)) .nil)))) (.fl .nil)) (.flat (by kernel_rfl)) newflat_nil) (TI.rn 7 [2, 6, 7, 8, 9, 10, 12, 13, 14, 30, 31, 32] [0, 1, 2, 3, 4, 5, 6, 7] (st 89 [(2, pt 2 0), (6, pt 3 0), (7, pt 4 0), (8, iv z86.1), (9, iv z86.2.1), (10, iv z86.2.2.1), (12, pt 5 0), (13, pt 6 0), (14, pt 7 0), (30, sv 1 p3.length ANY), (31, iv (p3.length : Int)), (32, iv z86.2.2.1)]) (H27_0 p2 p3 p0 p1 z86 o61 r63) (TI.dn (NX.sq (TS.sq (TS.bk 2 (TS.sq ?_))))))))
        refine TS.rg (TI.ra 3 [2, 6, 7, 8, 9, 12, 13, 14, 30, 31, 32, 56] (st 89 [(2, pt 2 0), (6, pt 3 0), (7, pt 4 0), (8, iv z86.1), (9, iv z86.2.1), (12, pt 5 0), (13, pt 6 0), (14, pt 7 0), (30, sv 1 p3.length ANY), (31, iv (p3.length : Int)), (32, iv z86.2.2.1), (56, .bool (z86.2.2.1 == 0))]) (TI.dn (NX.sq ?_)))
        refine TS.cd (.tmp 56) (z86.2.2.1 == 0) (fun hc65 => ?_) (fun hc65 => ?_)
        · replace hF := of_pos hF hc65
          refine TS.rg (TI.rn 2 [2, 6, 7, 8, 9, 12, 13, 14, 30, 31, 32] [0, 1, 2, 3, 4, 5, 6, 7] (st 89 [(2, pt 2 0), (6, pt 3 0), (7, pt 4 0), (8, iv z86.1), (9, iv z86.2.1), (12, pt 5 0), (13, pt 6 0), (14, pt 7 0), (30, sv 1 p3.length ANY), (31, iv (p3.length : Int)), (32, iv z86.2.2.1)]) [ab 57 e57 p2, ab 3 e3 p3, cl 24 [iv p0, iv p1, sv 0 p2.length ANY], cl 83 [iv r63.2.1, iv r63.2.2], cl 83 [iv z86.2.2.2.2.2.1, iv z86.2.2.2.2.2.2], cl 57 [iv o61.1, iv o61.2], cl 83 [iv r63.1.1, iv r63.1.2], cl 83 [iv r63.2.1, iv r63.2.2]] (TI.dn (NX.bk (NX.sq (TS.sq (TS.rg (TI.rn 2 [2, 6, 7, 8, 9, 12, 14, 30, 31, 32] [0, 1, 2, 3, 4, 5, 7] (S27_8 z86 p3) [ab 57 e57 p2, ab 3 e3 p3, cl 24 [iv p0, iv p1, sv 0 p2.length ANY], cl 83 [iv r63.2.1, iv r63.2.2], cl 83 [iv r63.1.1, iv r63.1.2], cl 57 [iv o61.1, iv o61.2], .dead, cl 83 [iv r63.2.1, iv r63.2.2]] (TI.dn ?_))))))))
          refine NX.sq (TS.sq (TS.sq (TS.rg (TI.ra 2 [2, 6, 7, 8, 9, 12, 14, 30, 31, 32, 71] (S27_4 z86 p3) (TI.dn (NX.sq ?_))))))
          have hX := of_do hF
          clear hF
          obtain ⟨m71, hm72, hF⟩ := hX
          have hK : NX Try.prog 2 2 [.sq c27.s2.s2.s2.s2.s2.s1.s2.bd.bd.s2.s2.s1.bd.s2.s2.s2.s2.s2.s2.s2, .bk 1, .sq c27.s2.s2.s2.s2.s2.s1.s2.bd.bd.s2.s2.s2] (Rd Try.prog 2 2 c27.s2.s2.s2.s2.s2.s1.s2.bd.bd (P27l0 p0 p1 p2 p3 r)) .normal (S27_10 z86 p3) [ab 57 e57 p2, ab 3 e3 p3, cl 24 [iv p0, iv p1, sv 0 p2.length ANY], cl 83 [iv r63.2.1, iv r63.2.2], cl 83 [iv m71.1, iv m71.2], cl 57 [iv o61.1, iv o61.2]] := by
            refine NX.sq (TS.sq (TS.rg (TI.rn 7 [2, 6, 7, 8, 9, 30, 31, 32] [0, 1, 2, 3, 4] (S27_7 z86 o61 p3) [ab 57 e57 p2, ab 3 e3 p3, cl 24 [iv p0, iv p1, sv 0 p2.length ANY], cl 83 [iv r63.2.1, iv r63.2.2], cl 83 [iv m71.1, iv m71.2], .dead] (TI.dn (NX.sq (TS.rg (TI.ra 3 [2, 6, 7, 8, 9, 30, 31, 32] (S27_6 z86 o61 p3) (TI.dn ?_))))))))
            refine NX.bk (NX.sq (TS.rg (TI.ra 2 [2, 6, 7, 8, 9, 30, 31, 32] (S27_5 z86 o61 p3) (TI.dn ?_))))
            exact Rd.again (a2 := (S27_5 z86 o61 p3)) (h2 := [ab 57 e57 p2, ab 3 e3 p3, cl 24 [iv p0, iv p1, sv 0 p2.length ANY], cl 83 [iv r63.2.1, iv r63.2.2], cl 83 [iv m71.1, iv m71.2]]) (Wk.an [2, 3, 4] (.ac (.ac (.lt (.fl (.fl (.sl .nil))) (.lt (.fl (.fl .nil)) (.lt (.fl (.fl .nil)) (.nil _)))))) [pt 2 0, pt 3 0, pt 4 0, iv (w64 (z86.1 + (w64 (z86.2.1 * o61.2)))), iv (w64 (0 - z86.2.1)), sv 1 p3.length ANY, iv (p3.length : Int), iv (w64 (z86.2.2.1 + 1))] (.pp (.pp (.pp (.fl (.fl (.sl (.fl (.fl .nil))))))))) (ih ((w64 (z86.1 + (w64 (z86.2.1 * o61.2)))), (w64 (0 - z86.2.1)), (w64 (z86.2.2.1 + 1)), r63.2.1, r63.2.2, m71.1, m71.2) _ hF)
          clear hF
          have hF := hm72
          clear hm72
          refine TS.start ?_
          refine TS.cd (.tmp 71) (decide (z86.2.1 < 0)) (fun hc73 => ?_) (fun hc73 => ?_)
          · replace hF := of_pos hF hc73
            refine TS.rg (TI.rn 2 [2, 6, 7, 8, 9, 12, 30, 31, 32] [0, 1, 2, 3, 4, 5] (S27_10 z86 p3) [ab 57 e57 p2, ab 3 e3 p3, cl 24 [iv p0, iv p1, sv 0 p2.length ANY], cl 83 [iv r63.2.1, iv r63.2.2], cl 83 [iv r63.2.1, iv r63.2.2], cl 57 [iv o61.1, iv o61.2], .dead, .dead] (TI.dn ?_))
            have hF := Option.some.inj hF
            subst hF
            exact TS.weak (by exact (Wk.an [2, 3, 4, 5] (.ac (.ac (.lt (.fl (.fl (.sl .nil))) (.lt (.fl (.fl .nil)) (.lt (.fl (.fl .nil)) (.lt (.fl (.fl .nil)) (.nil _))))))) [pt 2 0, pt 3 0, pt 4 0, iv z86.1, iv z86.2.1, pt 5 0, sv 1 p3.length ANY, iv (p3.length : Int), iv z86.2.2.1] (.pp (.pp (.pp (.fl (.fl (.pp (.sl (.fl (.fl .nil))))))))))) hK
          · replace hF := of_neg hF hc73
            refine TS.sk ?_
            have hF := Option.some.inj hF
            subst hF
            exact TS.weak (by exact (Wk.an [2, 3, 4, 5] (.ac (.ac (.lt (.fl (.fl (.sl .nil))) (.lt (.fl (.fl .nil)) (.lt (.fl (.fl .nil)) (.lt (.fl (.fl .nil)) (.nil _))))))) [pt 2 0, pt 3 0, pt 4 0, iv z86.1, iv z86.2.1, pt 5 0, sv 1 p3.length ANY, iv (p3.length : Int), iv z86.2.2.1] (.pp (.pp (.pp (.fl (.fl (.pp (.sl (.fl (.fl .nil))))))))))) hK
        · replace hF := of_neg hF hc65
          refine TS.sq ?_
          have hX := of_do hF
          clear hF
          obtain ⟨m75, hm84, hF⟩ := hX
          have hK : NX Try.prog 2 2 [.sq c27.s2.s2.s2.s2.s2.s1.s2.bd.bd.s2.s2.s1.bd.s2.s2.s2.s2.s1.bd.s2.el.s2, .bk 2, .sq c27.s2.s2.s2.s2.s2.s1.s2.bd.bd.s2.s2.s1.bd.s2.s2.s2.s2.s2, .bk 1, .sq c27.s2.s2.s2.s2.s2.s1.s2.bd.bd.s2.s2.s2] (Rd Try.prog 2 2 c27.s2.s2.s2.s2.s2.s1.s2.bd.bd (P27l0 p0 p1 p2 p3 r)) .normal (st 89 [(2, pt 2 0), (6, pt 3 0), (7, pt 4 0), (8, iv z86.1), (9, iv z86.2.1), (12, pt 5 0), (13, pt 6 0), (14, pt 7 0), (30, sv 1 p3.length ANY), (31, iv (p3.length : Int)), (32, iv z86.2.2.1), (60, .bool m75)]) (H27_0 p2 p3 p0 p1 z86 o61 r63) := by
            refine NX.sq ?_
            cases m75 with
            | true =>
              replace hF := of_pos hF rfl
              refine TS.cdT (.tmp 60) (TS.sq (TS.rg (TI.rn 1 [4] [0, 1] (st 89 [(4, iv 5)]) [ab 57 e57 p2, ab 3 e3 p3, .dead, .dead, .dead, .dead, .dead, .dead] (TI.dn (NX.sq (TS.rt (NX.bkR (NX.sqR ?_))))))))
              refine NX.bkR (NX.sqR ?_)
              have hF := Option.some.inj hF
              subst hF
              exact Rd.out (e := .ret) (by intro h; cases h) (And.intro rfl (Wk.an [] (.ac (.ac (.nil _))) [iv 5] (.fl .nil)))
            | false =>
              replace hF := of_neg hF rfl
              refine TS.cdF (.tmp 60) (TS.sk (NX.bk (NX.sq (TS.sq (TS.rg (TI.rn 2 [2, 6, 7, 8, 9, 12, 14, 30, 31, 32] [0, 1, 2, 3, 4, 5, 7] (S27_8 z86 p3) [ab 57 e57 p2, ab 3 e3 p3, cl 24 [iv p0, iv p1, sv 0 p2.length ANY], cl 83 [iv z86.2.2.2.1, iv z86.2.2.2.2.1], cl 83 [iv r63.1.1, iv r63.1.2], cl 57 [iv o61.1, iv o61.2], .dead, cl 83 [iv r63.2.1, iv r63.2.2]] (TI.dn (NX.sq ?_))))))))
              refine TS.sq (TS.sq (TS.rg (TI.ra 2 [2, 6, 7, 8, 9, 12, 14, 30, 31, 32, 71] (S27_4 z86 p3) (TI.dn (NX.sq ?_)))))
              have hX := of_do hF
              clear hF
              obtain ⟨m81, hm82, hF⟩ := hX
              have hK : NX Try.prog 2 2 [.sq c27.s2.s2.s2.s2.s2.s1.s2.bd.bd.s2.s2.s1.bd.s2.s2.s2.s2.s2.s2.s2, .bk 1, .sq c27.s2.s2.s2.s2.s2.s1.s2.bd.bd.s2.s2.s2] (Rd Try.prog 2 2 c27.s2.s2.s2.s2.s2.s1.s2.bd.bd (P27l0 p0 p1 p2 p3 r)) .normal (S27_10 z86 p3) [ab 57 e57 p2, ab 3 e3 p3, cl 24 [iv p0, iv p1, sv 0 p2.length ANY], cl 83 [iv z86.2.2.2.1, iv z86.2.2.2.2.1], cl 83 [iv m81.1, iv m81.2], cl 57 [iv o61.1, iv o61.2]] := by
                refine NX.sq (TS.sq (TS.rg (TI.rn 7 [2, 6, 7, 8, 9, 30, 31, 32] [0, 1, 2, 3, 4] (S27_7 z86 o61 p3) [ab 57 e57 p2, ab 3 e3 p3, cl 24 [iv p0, iv p1, sv 0 p2.length ANY], cl 83 [iv z86.2.2.2.1, iv z86.2.2.2.2.1], cl 83 [iv m81.1, iv m81.2], .dead] (TI.dn (NX.sq (TS.rg (TI.ra 3 [2, 6, 7, 8, 9, 30, 31, 32] (S27_6 z86 o61 p3) (TI.dn ?_))))))))
                refine NX.bk (NX.sq (TS.rg (TI.ra 2 [2, 6, 7, 8, 9, 30, 31, 32] (S27_5 z86 o61 p3) (TI.dn ?_))))
                exact Rd.again (a2 := (S27_5 z86 o61 p3)) (h2 := [ab 57 e57 p2, ab 3 e3 p3, cl 24 [iv p0, iv p1, sv 0 p2.length ANY], cl 83 [iv z86.2.2.2.1, iv z86.2.2.2.2.1], cl 83 [iv m81.1, iv m81.2]]) (Wk.an [2, 3, 4] (.ac (.ac (.lt (.fl (.fl (.sl .nil))) (.lt (.fl (.fl .nil)) (.lt (.fl (.fl .nil)) (.nil _)))))) [pt 2 0, pt 3 0, pt 4 0, iv (w64 (z86.1 + (w64 (z86.2.1 * o61.2)))), iv (w64 (0 - z86.2.1)), sv 1 p3.length ANY, iv (p3.length : Int), iv (w64 (z86.2.2.1 + 1))] (.pp (.pp (.pp (.fl (.fl (.sl (.fl (.fl .nil))))))))) (ih ((w64 (z86.1 + (w64 (z86.2.1 * o61.2)))), (w64 (0 - z86.2.1)), (w64 (z86.2.2.1 + 1)), z86.2.2.2.1, z86.2.2.2.2.1, m81.1, m81.2) _ hF)
              clear hF
              have hF := hm82
              clear hm82
              refine TS.start ?_
              refine TS.cd (.tmp 71) (decide (z86.2.1 < 0)) (fun hc83 => ?_) (fun hc83 => ?_)
              · replace hF := of_pos hF hc83
                refine TS.rg (TI.rn 2 [2, 6, 7, 8, 9, 12, 30, 31, 32] [0, 1, 2, 3, 4, 5] (S27_10 z86 p3) [ab 57 e57 p2, ab 3 e3 p3, cl 24 [iv p0, iv p1, sv 0 p2.length ANY], cl 83 [iv z86.2.2.2.1, iv z86.2.2.2.2.1], cl 83 [iv r63.2.1, iv r63.2.2], cl 57 [iv o61.1, iv o61.2], .dead, .dead] (TI.dn ?_))
                have hF := Option.some.inj hF
                subst hF
                exact TS.weak (by exact (Wk.an [2, 3, 4, 5] (.ac (.ac (.lt (.fl (.fl (.sl .nil))) (.lt (.fl (.fl .nil)) (.lt (.fl (.fl .nil)) (.lt (.fl (.fl .nil)) (.nil _))))))) [pt 2 0, pt 3 0, pt 4 0, iv z86.1, iv z86.2.1, pt 5 0, sv 1 p3.length ANY, iv (p3.length : Int), iv z86.2.2.1] (.pp (.pp (.pp (.fl (.fl (.pp (.sl (.fl (.fl .nil))))))))))) hK
              · replace hF := of_neg hF hc83
                refine TS.sk ?_
                have hF := Option.some.inj hF
                subst hF
                exact TS.weak (by exact (Wk.an [2, 3, 4, 5] (.ac (.ac (.lt (.fl (.fl (.sl .nil))) (.lt (.fl (.fl .nil)) (.lt (.fl (.fl .nil)) (.lt (.fl (.fl .nil)) (.nil _))))))) [pt 2 0, pt 3 0, pt 4 0, iv z86.1, iv z86.2.1, pt 5 0, sv 1 p3.length ANY, iv (p3.length : Int), iv z86.2.2.1] (.pp (.pp (.pp (.fl (.fl (.pp (.sl (.fl (.fl .nil))))))))))) hK
          rcases Bool.eq_false_or_eq_true (!((z86.2.2.2.2.2.1 == r63.1.1) && ((z86.2.2.2.2.2.2 == r63.1.2) && true))) with hc74 | hc74
          · replace hm84 := of_pos hm84 hc74
            have hm84 := Option.some.inj hm84
            subst hm84
            exact TS.rg (TI.ra 2 [2, 6, 7, 8, 9, 12, 13, 14, 30, 31, 32, 61, 62] (S27_1 z86 p3 r63) (TI.o { val := .bool true } (q_conv (e := !((z86.2.2.2.2.2.1 == r63.1.1) && ((z86.2.2.2.2.2.2 == r63.1.2) && true))) (b := true) (by kernel_rfl) hc74) [2, 6, 7, 8, 9, 12, 13, 14, 30, 31, 32, 63] [0, 1, 2, 3, 4, 5, 6, 7] (st 89 [(2, pt 2 0), (6, pt 3 0), (7, pt 4 0), (8, iv z86.1), (9, iv z86.2.1), (12, pt 5 0), (13, pt 6 0), (14, pt 7 0), (30, sv 1 p3.length ANY), (31, iv (p3.length : Int)), (32, iv z86.2.2.1), (63, .bool true)]) (H27_0 p2 p3 p0 p1 z86 o61 r63) (TI.ra 6 [2, 6, 7, 8, 9, 12, 13, 14, 30, 31, 32, 60] (st 89 [(2, pt 2 0), (6, pt 3 0), (7, pt 4 0), (8, iv z86.1), (9, iv z86.2.1), (12, pt 5 0), (13, pt 6 0), (14, pt 7 0), (30, sv 1 p3.length ANY), (31, iv (p3.length : Int)), (32, iv z86.2.2.1), (60, .bool (!((z86.2.2.2.2.2.1 == r63.2.1) && ((z86.2.2.2.2.2.2 == r63.2.2) && true))))]) (TI.dn hK))))
          · replace hm84 := of_neg hm84 hc74
            have hm84 := Option.some.inj hm84
            subst hm84
            exact TS.rg (TI.ra 2 [2, 6, 7, 8, 9, 12, 13, 14, 30, 31, 32, 61, 62] (S27_1 z86 p3 r63) (TI.o { val := .bool false } (q_conv (e := !((z86.2.2.2.2.2.1 == r63.1.1) && ((z86.2.2.2.2.2.2 == r63.1.2) && true))) (b := false) (by kernel_rfl) hc74) [2, 6, 7, 8, 9, 12, 13, 14, 30, 31, 32, 63] [0, 1, 2, 3, 4, 5, 6, 7] (st 89 [(2, pt 2 0), (6, pt 3 0), (7, pt 4 0), (8, iv z86.1), (9, iv z86.2.1), (12, pt 5 0), (13, pt 6 0), (14, pt 7 0), (30, sv 1 p3.length ANY), (31, iv (p3.length : Int)), (32, iv z86.2.2.1), (63, .bool false)]) (H27_0 p2 p3 p0 p1 z86 o61 r63) (TI.ra 6 [2, 6, 7, 8, 9, 12, 13, 14, 30, 31, 32, 60] (st 89 [(2, pt 2 0), (6, pt 3 0), (7, pt 4 0), (8, iv z86.1), (9, iv z86.2.1), (12, pt 5 0), (13, pt 6 0), (14, pt 7 0), (30, sv 1 p3.length ANY), (31, iv (p3.length : Int)), (32, iv z86.2.2.1), (60, .bool false)]) (TI.dn hK))))
    cases r57 with
    | true =>
      replace hm85 := of_pos hm85 rfl
      have hm85 := Option.some.inj hm85
      subst hm85
      exact TS.rg (TI.ra 5 [2, 6, 7, 8, 9, 10, 11, 30, 31, 32, 37, 41] (S27_2 z86 o55 p3 p2) (TI.cf (C51 _ _ _ _ h58) (TI.ra 1 [2, 6, 7, 8, 9, 10, 11, 30, 31, 32, 43] (st 89 [(2, pt 2 0), (6, pt 3 0), (7, pt 4 0), (8, iv z86.1), (9, iv z86.2.1), (10, iv z86.2.2.1), (11, iv o55), (30, sv 1 p3.length ANY), (31, iv (p3.length : Int)), (32, iv z86.2.2.1), (43, .bool false)]) (TI.dn hK))))
    | false =>
      replace hm85 := of_neg hm85 rfl
      have hm85 := Option.some.inj hm85
      subst hm85
      exact TS.rg (TI.ra 5 [2, 6, 7, 8, 9, 10, 11, 30, 31, 32, 37, 41] (S27_2 z86 o55 p3 p2) (TI.cf (C51 _ _ _ _ h58) (TI.ra 1 [2, 6, 7, 8, 9, 10, 11, 30, 31, 32, 43] (st 89 [(2, pt 2 0), (6, pt 3 0), (7, pt 4 0), (8, iv z86.1), (9, iv z86.2.1), (10, iv z86.2.2.1), (11, iv o55), (30, sv 1 p3.length ANY), (31, iv (p3.length : Int)), (32, iv z86.2.2.1), (43, .bool true)]) (TI.dn hK))))
  · replace hF := of_neg hF hc53
    refine TS.ex 0 (NX.sqX ?_)
    have hF := Option.some.inj hF
    subst hF
    exact Rd.out (e := .exit 0) (by intro h; cases h) (And.intro rfl (Wk.an [3, 4] (.ac (.ac (.lt (.fl (.fl .nil)) (.lt (.fl (.fl .nil)) (.nil _))))) [pt 3 0, pt 4 0, iv z86.1] (.pp (.pp (.fl .nil)))))
theorem B27 (p0 : Int) (p1 : Int) (p2 : (List (Int × Int))) (p3 : (List Int)) (r : Int) (hF : F27 p0 p1 p2 p3 = some r) : TS Try.prog 2 2 c27 (st 89 [(0, ag [iv p0, iv p1, sv 0 p2.length ANY]), (1, sv 1 p3.length ANY)]) (H27_13 p2 p3) (NX Try.prog 2 2 [] (FinP Try.prog Try.f27 2 (V27 2 r) (N27 2 r))) := by
  unfold F27 at hF
  refine TS.sq (TS.rg (TI.rn 2 [1, 2] [0, 1, 2] (st 89 [(1, sv 1 p3.length ANY), (2, pt 2 0)]) [ab 57 e57 p2, ab 3 e3 p3, cl 24 [iv p0, iv p1, sv 0 p2.length ANY]] (TI.dn (NX.sq (TS.sq (TS.sq ?_))))))
  have hX := of_do hF
  clear hF
  obtain ⟨r1, h2, hF⟩ := hX
  refine TS.rg (TI.ra 1 [1, 2, 15] (st 89 [(1, sv 1 p3.length ANY), (2, pt 2 0), (15, ag [iv p0, iv p1, sv 0 p2.length ANY])]) (TI.cp 23 [ag [iv p0, iv p1, sv 0 p2.length ANY]] (iv r1) [] (PureSim.ren (hc := [ab 57 e57 p2]) (fun i => List.getD [(0, 0)] i (0, 0)) (C23 _ _ _ _ h2) (.ac (.nil _)) (.cons (Rn.agg' (.fl (.fl (.cons (Rn.any _ _ _ _ _ _ (Nat.le_of_ble_eq_true rfl) rfl rfl (by decide)) .nil)))) .nil) (.flat (by kernel_rfl)) newflat_nil) (TI.ra 1 [1, 2, 5] (st 89 [(1, sv 1 p3.length ANY), (2, pt 2 0), (5, iv r1)]) (TI.dn (NX.sq (TS.sq (TS.rg (TI.ra 2 [1, 2, 5, 18] (st 89 [(1, sv 1 p3.length ANY), (2, pt 2 0), (5, iv r1), (18, .bool (r1 != 0))]) ?_))))))))
  refine TI.dn (NX.sq ?_)
  refine TS.cd (.tmp 18) (r1 != 0) (fun hc3 => ?_) (fun hc3 => ?_)
  · replace hF := of_pos hF hc3
    refine TS.sq (TS.rg (TI.rn 2 [4] [0, 1] (st 89 [(4, iv r1)]) [ab 57 e57 p2, ab 3 e3 p3, .dead] (TI.dn (NX.sq (TS.rt (NX.sqR ?_))))))
    have hF := Option.some.inj hF
    subst hF
    exact ⟨.inr rfl, rfl, iv r1, by kernel_rfl, WkV.flat0 (by kernel_rfl) (Nat.le_of_ble_eq_true rfl)⟩
  · replace hF := of_neg hF hc3
    refine TS.sk (NX.sq (TS.sq (TS.sq ?_)))
    have hX := of_do hF
    clear hF
    obtain ⟨r4, h5, hF⟩ := hX
    have hX := of_do hF
    clear hF
    obtain ⟨m6, hm93, hF⟩ := hX
    have hK : NX Try.prog 2 2 [.sq c27.s2.s2.s1.s2, .sq c27.s2.s2.s2] (FinP Try.prog Try.f27 2 (V27 2 r) (N27 2 r)) .normal (st 89 [(1, sv 1 p3.length ANY), (2, pt 2 0), (29, .bool m6)]) [ab 57 e57 p2, ab 3 e3 p3, cl 24 [iv p0, iv p1, sv 0 p2.length ANY]] := by
      refine NX.sq ?_
      cases m6 with
      | true =>
        replace hF := of_pos hF rfl
        refine TS.cdT (.tmp 29) (TS.sq (TS.rg (TI.rn 1 [4] [0, 1] (st 89 [(4, iv 4)]) [ab 57 e57 p2, ab 3 e3 p3, .dead] (TI.dn (NX.sq (TS.rt (NX.sqR ?_)))))))
        have hF := Option.some.inj hF
        subst hF
        exact ⟨.inr rfl, rfl, iv 4, by kernel_rfl, WkV.flat0 (by kernel_rfl) (Nat.le_of_ble_eq_true rfl)⟩
      | false =>
        replace hF := of_neg hF rfl
        refine TS.cdF (.tmp 29) (TS.sk (NX.sq (TS.sq (TS.rg (TI.rn 2 [1, 2, 6, 7] [0, 1, 2, 3, 4] (st 89 [(1, sv 1 p3.length ANY), (2, pt 2 0), (6, pt 3 0), (7, pt 4 0)]) (H27_9 p2 p3 p0 p1) (TI.dn (NX.sq (TS.sq ?_))))))))
        refine TS.rg (TI.ra 2 [1, 2, 6, 7, 8, 9] (st 89 [(1, sv 1 p3.length ANY), (2, pt 2 0), (6, pt 3 0), (7, pt 4 0), (8, iv 0), (9, iv 1)]) (TI.dn (NX.sq (TS.sq (TS.sq (TS.rg (TI.ra 3 [2, 6, 7, 8, 9, 30, 31, 32] (S27_11 p3) (TI.dn ?_))))))))
        refine NX.sq (TS.bk 0 ?_)
        have hX := of_do hF
        clear hF
        obtain ⟨r87, h88, hF⟩ := hX
        refine TS.lp (TL.weak (a2 := (S27_11 p3)) (h2 := (H27_9 p2 p3 p0 p1)) (Wk.an [2, 3, 4] (.ac (.ac (.lt (.fl (.fl (.sl .nil))) (.lt (.fl (.fl .nil)) (.lt (.fl (.fl .nil)) (.nil _)))))) [pt 2 0, pt 3 0, pt 4 0, iv 0, iv 1, sv 1 p3.length ANY, iv (p3.length : Int), iv 0] (.pp (.pp (.pp (.fl (.fl (.sl (.fl (.fl .nil))))))))) (TL.post (L27l0 p0 p1 p2 p3 0 1 0 0 0 0 0 r87 h88) ?_))
        rintro e a1 h1 hp
        rcases r87 with o89 | o90
        · skip
          obtain ⟨rfl, hw⟩ := hp
          refine ⟨(st 89 [(4, iv o89)]), (H27_13 p2 p3), (NX.bkR (NX.sqR ?_)), hw⟩
          have hF := Option.some.inj hF
          subst hF
          exact ⟨.inr rfl, rfl, iv o89, by kernel_rfl, WkV.flat0 (by kernel_rfl) (Nat.le_of_ble_eq_true rfl)⟩
        · skip
          obtain ⟨rfl, hw⟩ := hp
          refine ⟨(st 89 [(6, pt 2 0), (7, pt 3 0), (8, iv o90.1)]), [ab 57 e57 p2, ab 3 e3 p3, cl 83 [iv o90.2.1, iv o90.2.2.1], cl 83 [iv o90.2.2.2.1, iv o90.2.2.2.2]], (NX.bkX (NX.sq (TS.sq (TS.bk 3 (TS.sq (TS.rg (TI.rn 4 [8, 82] [0, 1] (st 89 [(8, iv o90.1), (82, .bool (!((o90.2.2.2.1 == o90.2.1) && ((o90.2.2.2.2 == o90.2.2.1) && true))))]) [ab 57 e57 p2, ab 3 e3 p3, .dead, .dead] (TI.dn ?_)))))))), hw⟩
          refine NX.sq ?_
          refine TS.cd (.tmp 82) (!((o90.2.2.2.1 == o90.2.1) && ((o90.2.2.2.2 == o90.2.2.1) && true))) (fun hc91 => ?_) (fun hc91 => ?_)
          · replace hF := of_pos hF hc91
            refine TS.sq (TS.rg (TI.ra 1 [4] (st 89 [(4, iv 5)]) (TI.dn (NX.sq (TS.rt (NX.bkR (NX.sqR ?_)))))))
            have hF := Option.some.inj hF
            subst hF
            exact ⟨.inr rfl, rfl, iv 5, by kernel_rfl, WkV.flat0 (by kernel_rfl) (Nat.le_of_ble_eq_true rfl)⟩
          · replace hF := of_neg hF hc91
            refine TS.sq (TS.rg (TI.ra 3 [86] (st 89 [(86, .bool (o90.1 == 0))]) (TI.dn (NX.sq ?_))))
            refine TS.cd (.tmp 86) (o90.1 == 0) (fun hc92 => ?_) (fun hc92 => ?_)
            · replace hF := of_pos hF hc92
              refine TS.sq (TS.rg (TI.ra 1 [4] (st 89 [(4, iv 12)]) (TI.dn (NX.sq (TS.rt (NX.bkR (NX.sqR ?_)))))))
              have hF := Option.some.inj hF
              subst hF
              exact ⟨.inr rfl, rfl, iv 12, by kernel_rfl, WkV.flat0 (by kernel_rfl) (Nat.le_of_ble_eq_true rfl)⟩
            · replace hF := of_neg hF hc92
              refine TS.sk (NX.bk (NX.sq (TS.sq (TS.rg (TI.ra 1 [4] (st 89 [(4, iv 0)]) (TI.dn (NX.sq (TS.rt ?_))))))))
              have hF := Option.some.inj hF
              subst hF
              exact ⟨.inr rfl, rfl, iv 0, by kernel_rfl, WkV.flat0 (by kernel_rfl) (Nat.le_of_ble_eq_true rfl)⟩
    cases r4 with
    | true =>
      replace hm93 := of_pos hm93 rfl
      have hm93 := Option.some.inj hm93
      subst hm93
      exact TS.rg (TI.ra 2 [1, 2, 21] (S27_12 p3) (TI.cf (C51 _ _ _ _ h5) (TI.ra 7 [1, 2, 29] (st 89 [(1, sv 1 p3.length ANY), (2, pt 2 0), (29, .bool ((Int.tmod (p3.length : Int) 2) != 0))]) (TI.dn hK))))
    | false =>
      replace hm93 := of_neg hm93 rfl
      have hm93 := Option.some.inj hm93
      subst hm93
      exact TS.rg (TI.ra 2 [1, 2, 21] (S27_12 p3) (TI.cf (C51 _ _ _ _ h5) (TI.ra 7 [1, 2, 29] (st 89 [(1, sv 1 p3.length ANY), (2, pt 2 0), (29, .bool true)]) (TI.dn hK))))
theorem C27 (p0 : Int) (p1 : Int) (p2 : (List (Int × Int))) (p3 : (List Int)) (r : Int) (hF : F27 p0 p1 p2 p3 = some r) : PureSim Try.prog 27 [ag [iv p0, iv p1, sv 0 p2.length ANY], sv 1 p3.length ANY] (H27_13 p2 p3) (V27 2 r) (N27 2 r) :=
  PureSim.of_Fin Try.func27 (c := c27) (by kernel_rfl) (by kernel_rfl) 2 rfl [0, 1] [0, 1] (by kernel_rfl) (B27 p0 p1 p2 p3 r hF)
end
end Go.Proofs.Ytdekbjfjbbdjgaa
