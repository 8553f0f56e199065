/- What functions of the program compute, and that they do. -/
import Derived.Test.YtdekbjfjbbdjgaaGS
set_option linter.unusedVariables false
set_option linter.unusedSimpArgs false
set_option maxRecDepth 100000
set_option maxHeartbeats 4000000
namespace Go.Proofs.Ytdekbjfjbbdjgaa
open Go Go.Cl
noncomputable section
noncomputable def c34 : Code := Try.f34.code
def S34_0 (p3 : (List Int)) (v27 : Int) (v28 : Int) (o56 : Int) (o60 : Int) (p2 : (List (Int × Int))) (o67 : (Int × Int)) (o70 : (Int × Int)) : CAct := (st 104 [(1, sv 1 p3.length ANY), (2, pt 2 0), (5, iv v27), (6, iv v28), (7, iv o56), (8, iv o60), (9, pt 3 0), (10, pt 4 0), (20, sv 1 p3.length ANY), (21, iv (p3.length : Int)), (22, iv v28), (57, .bool false), (58, pt 2 2), (59, sv 0 p2.length ANY), (60, iv o56), (61, .pointer (some ⟨0, 0 + (Int.toNat o56) * 2, none⟩)), (62, ag [iv o67.1, iv o67.2]), (63, pt 2 2), (64, sv 0 p2.length ANY), (65, iv o60), (66, .pointer (some ⟨0, 0 + (Int.toNat o60) * 2, none⟩)), (67, ag [iv o70.1, iv o70.2])])
def S34_1 (p3 : (List Int)) (v27 : Int) (v28 : Int) (o56 : Int) (o60 : Int) (p2 : (List (Int × Int))) (o67 : (Int × Int)) (o70 : (Int × Int)) : CAct := (st 104 [(1, sv 1 p3.length ANY), (2, pt 2 0), (5, iv v27), (6, iv v28), (7, iv o56), (8, iv o60), (20, sv 1 p3.length ANY), (21, iv (p3.length : Int)), (22, iv v28), (57, .bool false), (58, pt 2 2), (59, sv 0 p2.length ANY), (60, iv o56), (61, .pointer (some ⟨0, 0 + (Int.toNat o56) * 2, none⟩)), (62, ag [iv o67.1, iv o67.2]), (63, pt 2 2), (64, sv 0 p2.length ANY), (65, iv o60), (66, .pointer (some ⟨0, 0 + (Int.toNat o60) * 2, none⟩)), (67, ag [iv o70.1, iv o70.2])])
def S34_2 (p3 : (List Int)) (v27 : Int) (v28 : Int) (o56 : Int) (o60 : Int) (p2 : (List (Int × Int))) (o67 : (Int × Int)) : CAct := (st 104 [(1, sv 1 p3.length ANY), (2, pt 2 0), (5, iv v27), (6, iv v28), (7, iv o56), (8, iv o60), (20, sv 1 p3.length ANY), (21, iv (p3.length : Int)), (22, iv v28), (57, .bool false), (58, pt 2 2), (59, sv 0 p2.length ANY), (60, iv o56), (61, .pointer (some ⟨0, 0 + (Int.toNat o56) * 2, none⟩)), (62, ag [iv o67.1, iv o67.2]), (63, pt 2 2), (64, sv 0 p2.length ANY), (65, iv o60), (66, .pointer (some ⟨0, 0 + (Int.toNat o60) * 2, none⟩))])
def S34_3 (p3 : (List Int)) (v27 : Int) (v28 : Int) (o56 : Int) (o60 : Int) (p2 : (List (Int × Int))) (o67 : (Int × Int)) : CAct := (st 104 [(1, sv 1 p3.length ANY), (2, pt 2 0), (5, iv v27), (6, iv v28), (7, iv o56), (8, iv o60), (20, sv 1 p3.length ANY), (21, iv (p3.length : Int)), (22, iv v28), (57, .bool false), (58, pt 2 2), (59, sv 0 p2.length ANY), (60, iv o56), (61, .pointer (some ⟨0, 0 + (Int.toNat o56) * 2, none⟩)), (62, ag [iv o67.1, iv o67.2]), (63, pt 2 2), (64, sv 0 p2.length ANY), (65, iv o60)])
def S34_4 (p3 : (List Int)) (v27 : Int) (v28 : Int) (o56 : Int) (o60 : Int) (p2 : (List (Int × Int))) (o67 : (Int × Int)) : CAct := (st 104 [(1, sv 1 p3.length ANY), (2, pt 2 0), (5, iv v27), (6, iv v28), (7, iv o56), (8, iv o60), (20, sv 1 p3.length ANY), (21, iv (p3.length : Int)), (22, iv v28), (57, .bool false), (58, pt 2 2), (59, sv 0 p2.length ANY), (60, iv o56), (61, .pointer (some ⟨0, 0 + (Int.toNat o56) * 2, none⟩)), (62, ag [iv o67.1, iv o67.2])])
def S34_5 (p3 : (List Int)) (v27 : Int) (v28 : Int) (o56 : Int) (o60 : Int) (p2 : (List (Int × Int))) : CAct := (st 104 [(1, sv 1 p3.length ANY), (2, pt 2 0), (5, iv v27), (6, iv v28), (7, iv o56), (8, iv o60), (20, sv 1 p3.length ANY), (21, iv (p3.length : Int)), (22, iv v28), (57, .bool false), (58, pt 2 2), (59, sv 0 p2.length ANY), (60, iv o56), (61, .pointer (some ⟨0, 0 + (Int.toNat o56) * 2, none⟩))])
def S34_6 (p3 : (List Int)) (v27 : Int) (v28 : Int) (o56 : Int) (o60 : Int) (p2 : (List (Int × Int))) : CAct := (st 104 [(1, sv 1 p3.length ANY), (2, pt 2 0), (5, iv v27), (6, iv v28), (7, iv o56), (8, iv o60), (20, sv 1 p3.length ANY), (21, iv (p3.length : Int)), (22, iv v28), (57, .bool false), (58, pt 2 2), (59, sv 0 p2.length ANY), (60, iv o56)])
def S34_7 (p3 : (List Int)) (v27 : Int) (v28 : Int) (o56 : Int) (o60 : Int) (p2 : (List (Int × Int))) : CAct := (st 104 [(1, sv 1 p3.length ANY), (2, pt 2 0), (5, iv v27), (6, iv v28), (7, iv o56), (8, iv o60), (20, sv 1 p3.length ANY), (21, iv (p3.length : Int)), (22, iv v28), (40, .bool false), (41, iv o56), (44, iv (p2.length : Int))])
def S34_8 (p3 : (List Int)) (v27 : Int) (v28 : Int) (o56 : Int) (o60 : Int) : CAct := (st 104 [(1, sv 1 p3.length ANY), (2, pt 2 0), (5, iv v27), (6, iv v28), (7, iv o56), (8, iv o60), (20, sv 1 p3.length ANY), (21, iv (p3.length : Int)), (22, iv v28), (40, .bool false), (45, .bool false)])
def S34_9 (p3 : (List Int)) (v27 : Int) (v28 : Int) (o56 : Int) (o60 : Int) : CAct := (st 104 [(1, sv 1 p3.length ANY), (2, pt 2 0), (5, iv v27), (6, iv v28), (7, iv o56), (8, iv o60), (20, sv 1 p3.length ANY), (21, iv (p3.length : Int)), (22, iv v28), (47, .bool false), (48, iv o60)])
def S34_10 (p3 : (List Int)) (v27 : Int) (v28 : Int) (o56 : Int) (o60 : Int) : CAct := (st 104 [(1, sv 1 p3.length ANY), (2, pt 2 0), (5, iv v27), (6, iv v28), (7, iv o56), (8, iv o60), (20, sv 1 p3.length ANY), (21, iv (p3.length : Int)), (22, iv v28), (39, .bool false)])
def S34_11 (p3 : (List Int)) (v27 : Int) (v28 : Int) (o56 : Int) (o60 : Int) : CAct := (st 104 [(1, sv 1 p3.length ANY), (2, pt 2 0), (5, iv v27), (6, iv v28), (7, iv o56), (8, iv o60), (20, sv 1 p3.length ANY), (21, iv (p3.length : Int)), (22, iv v28), (57, .bool true)])
def S34_12 (p3 : (List Int)) (v27 : Int) (v28 : Int) (o56 : Int) (o60 : Int) : CAct := (st 104 [(1, sv 1 p3.length ANY), (2, pt 2 0), (5, iv v27), (6, iv v28), (7, iv o56), (8, iv o60), (20, sv 1 p3.length ANY), (21, iv (p3.length : Int)), (22, iv v28), (38, iv o56)])
def H34_13 (p2 : (List (Int × Int))) (p3 : (List Int)) (p0 : Int) (p1 : Int) (o67 : (Int × Int)) (o70 : (Int × Int)) : List Blk := [ab 57 e57 p2, ab 3 e3 p3, cl 24 [iv p0, iv p1, sv 0 p2.length ANY], cl 57 [iv o67.1, iv o67.2], cl 57 [iv o70.1, iv o70.2]]
def S34_14 (p3 : (List Int)) (v27 : Int) (o67 : (Int × Int)) (v28 : Int) : CAct := (st 104 [(1, sv 1 p3.length ANY), (2, pt 2 0), (5, iv (w64 (v27 + o67.2))), (20, sv 1 p3.length ANY), (21, iv (p3.length : Int)), (22, iv (w64 (v28 + 1)))])
def S34_15 (p3 : (List Int)) (v27 : Int) (o67 : (Int × Int)) (v28 : Int) : CAct := (st 104 [(1, sv 1 p3.length ANY), (2, pt 2 0), (5, iv (w64 (v27 - o67.2))), (20, sv 1 p3.length ANY), (21, iv (p3.length : Int)), (22, iv (w64 (v28 + 1)))])
def H34_16 (p2 : (List (Int × Int))) (p3 : (List Int)) (p0 : Int) (p1 : Int) (o67 : (Int × Int)) : List Blk := [ab 57 e57 p2, ab 3 e3 p3, cl 24 [iv p0, iv p1, sv 0 p2.length ANY], cl 57 [iv o67.1, iv o67.2], cl 57 [iv 0, iv 0]]
def S34_17 (p3 : (List Int)) (v27 : Int) (v28 : Int) : CAct := (st 104 [(1, sv 1 p3.length ANY), (2, pt 2 0), (5, iv v27), (20, sv 1 p3.length ANY), (21, iv (p3.length : Int)), (22, iv v28)])
def S34_18 (p3 : (List Int)) : CAct := (st 104 [(1, sv 1 p3.length ANY), (2, pt 2 0), (5, iv 0), (20, sv 1 p3.length ANY), (21, iv (p3.length : Int)), (22, iv 0)])
def H34_19 (p2 : (List (Int × Int))) (p3 : (List Int)) (p0 : Int) (p1 : Int) : List Blk := [ab 57 e57 p2, ab 3 e3 p3, cl 24 [iv p0, iv p1, sv 0 p2.length ANY], .dead, .dead]
def H34_20 (p2 : (List (Int × Int))) (p3 : (List Int)) (p0 : Int) (p1 : Int) : List Blk := [ab 57 e57 p2, ab 3 e3 p3, cl 24 [iv p0, iv p1, sv 0 p2.length ANY]]
def S34_21 (p3 : (List Int)) : CAct := (st 104 [(1, sv 1 p3.length ANY), (2, pt 2 0), (12, iv (p3.length : Int))])
def H34_22 (p2 : (List (Int × Int))) (p3 : (List Int)) : List Blk := [ab 57 e57 p2, ab 3 e3 p3]
def F34l0 (p0 : Int) (p1 : Int) (p2 : (List (Int × Int))) (p3 : (List Int)) (v27 : Int) (v28 : Int) : Option (Unit ⊕ Int) :=
    if decide (v28 < (p3.length : Int)) then
      if (0 : Int) ≤ v28 ∧ v28 < (p3.length : Int) then
        some (List.getD p3 (Int.toNat v28) 0) >>= fun o56 =>
        if (p3.length : Int) = 0 then none else
        if (0 : Int) ≤ Int.tmod (w64 ((w64 (v28 + (p3.length : Int))) - 1)) (p3.length : Int) ∧ Int.tmod (w64 ((w64 (v28 + (p3.length : Int))) - 1)) (p3.length : Int) < (p3.length : Int) then
          some (List.getD p3 (Int.toNat (Int.tmod (w64 ((w64 (v28 + (p3.length : Int))) - 1)) (p3.length : Int))) 0) >>= fun o60 =>
          (
            if decide (o56 < 0) then
              some (true)
            else
              if decide (o56 ≥ (p2.length : Int)) then
                some (true)
              else
                if decide (o60 < 0) then
                  some (true)
                else
                  some (decide (o60 ≥ (p2.length : Int)))
          : Option Bool) >>= fun m65 =>
          if m65 then
            some (.inl ())
          else
            if (0 : Int) ≤ o56 ∧ o56 < (p2.length : Int) then
              some (List.getD p2 (Int.toNat o56) (0, 0)) >>= fun o67 =>
              if (0 : Int) ≤ o60 ∧ o60 < (p2.length : Int) then
                some (List.getD p2 (Int.toNat o60) (0, 0)) >>= fun o70 =>
                if (Int.tmod v28 2) == 0 then
                  if p1 = 0 then none else
                  if (Int.tmod o67.1 p1) != (Int.tmod o70.1 p1) then
                    some (.inl ())
                  else
                    F34l0 p0 p1 p2 p3 (w64 (v27 + o67.2)) (w64 (v28 + 1))
                else
                  if p0 = 0 then none else
                  if (Int.tmod o67.1 p0) != (Int.tmod o70.1 p0) then
                    some (.inl ())
                  else
                    F34l0 p0 p1 p2 p3 (w64 (v27 - o67.2)) (w64 (v28 + 1))
              else none
            else none
        else none
      else none
    else
      some (.inr v27)
  partial_fixpoint
def F34 (p0 : Int) (p1 : Int) (p2 : (List (Int × Int))) (p3 : (List Int)) : Option Bool :=
  (
    if decide ((p3.length : Int) < 2) then
      some (true)
    else
      some ((Int.tmod (p3.length : Int) 2) == 1)
  : Option Bool) >>= fun m2 =>
  if m2 then
    some false
  else
    F34l0 p0 p1 p2 p3 0 0 >>= fun r78 =>
    match r78 with
    | .inl o80 =>
      some false
    | .inr o81 =>
      some (o81 != 0)
def V34 (b : Nat) (r : Bool) : Value := .bool r
def N34 (b : Nat) (r : Bool) : List Blk := []
def P34l0 (p0 : Int) (p1 : Int) (p2 : (List (Int × Int))) (p3 : (List Int)) (r : (Unit ⊕ Int)) : Post := fun e a h => (match r with | .inl q0 => e = .ret ∧ Wk Try.prog 2 2 a h (st 104 [(4, .bool false)]) (H34_22 p2 p3) | .inr q0 => e = .exit 0 ∧ Wk Try.prog 2 2 a h (st 104 [(5, iv q0)]) (H34_22 p2 p3))
theorem L34l0 (p0 : Int) (p1 : Int) (p2 : (List (Int × Int))) (p3 : (List Int)) (v27 : Int) (v28 : Int) (r : (Unit ⊕ Int)) (hF : F34l0 p0 p1 p2 p3 v27 v28 = some r) : TL Try.prog 2 2 c34.s2.s2.s2.s1.s2.bd.bd (S34_17 p3 v27 v28) (H34_20 p2 p3 p0 p1) (P34l0 p0 p1 p2 p3 r) := by
  refine F34l0.partial_correctness p0 p1 p2 p3 (motive := fun v27 v28 r => TL Try.prog 2 2 c34.s2.s2.s2.s1.s2.bd.bd (S34_17 p3 v27 v28) (H34_20 p2 p3 p0 p1) (P34l0 p0 p1 p2 p3 r)) ?_ v27 v28 r hF
  clear hF r v27 v28
  intro again ih v27 v28 r hF
  refine TL.round (TS.sq (TS.rg (TI.ra 1 [1, 2, 5, 20, 21, 22, 23] (st 104 [(1, sv 1 p3.length ANY), (2, pt 2 0), (5, iv v27), (20, sv 1 p3.length ANY), (21, iv (p3.length : Int)), (22, iv v28), (23, .bool (decide (v28 < (p3.length : Int))))]) (TI.dn (NX.sq (TS.sq ?_))))))
  refine TS.cd (.tmp 23) (decide (v28 < (p3.length : Int))) (fun hc54 => ?_) (fun hc54 => ?_)
  · replace hF := of_pos hF hc54
    refine TS.sk (NX.sq (TS.sq (TS.bk 1 (TS.sq ?_))))
    have hX := of_guard hF
    clear hF
    obtain ⟨hg55, hF⟩ := hX
    have hX := of_do hF
    clear hF
    obtain ⟨o56, h57, hF⟩ := hX
    replace h57 := Option.some.inj h57
    refine TS.rg (TI.ra 1 [1, 2, 5, 20, 21, 22, 24] (st 104 [(1, sv 1 p3.length ANY), (2, pt 2 0), (5, iv v27), (20, sv 1 p3.length ANY), (21, iv (p3.length : Int)), (22, iv v28), (24, iv v28)]) (TI.o { val := .pointer (some ⟨1, 0 + (Int.toNat v28) * 1, none⟩) } (q_ixS 1 0 ((Int.toNat v28) * 1) (by kernel_rfl) hg55) [1, 2, 5, 20, 21, 22, 24, 25] [0, 1, 2] (st 104 [(1, sv 1 p3.length ANY), (2, pt 2 0), (5, iv v27), (20, sv 1 p3.length ANY), (21, iv (p3.length : Int)), (22, iv v28), (24, iv v28), (25, .pointer (some ⟨1, 0 + (Int.toNat v28) * 1, none⟩))]) (H34_20 p2 p3 p0 p1) (TI.o { val := iv o56 } (q_n1a Try.prog (H34_20 p2 p3 p0 p1) 3 1 (0 + (Int.toNat v28) * 1) p3 e3 1 3 (Int.toNat v28) 0 0 h57) [1, 2, 5, 20, 21, 22, 24, 26] [0, 1, 2] (st 104 [(1, sv 1 p3.length ANY), (2, pt 2 0), (5, iv v27), (20, sv 1 p3.length ANY), (21, iv (p3.length : Int)), (22, iv v28), (24, iv v28), (26, iv o56)]) (H34_20 p2 p3 p0 p1) (TI.ra 2 [1, 2, 5, 6, 7, 20, 21, 22] (st 104 [(1, sv 1 p3.length ANY), (2, pt 2 0), (5, iv v27), (6, iv v28), (7, iv o56), (20, sv 1 p3.length ANY), (21, iv (p3.length : Int)), (22, iv v28)]) (TI.dn (NX.sq (TS.sq ?_)))))))
    have hX := of_guardn hF
    clear hF
    obtain ⟨hg58, hF⟩ := hX
    have hX := of_guard hF
    clear hF
    obtain ⟨hg59, hF⟩ := hX
    have hX := of_do hF
    clear hF
    obtain ⟨o60, h61, hF⟩ := hX
    replace h61 := Option.some.inj h61
    refine TS.rg (TI.ra 8 [1, 2, 5, 6, 7, 20, 21, 22, 27, 32, 34] (st 104 [(1, sv 1 p3.length ANY), (2, pt 2 0), (5, iv v27), (6, iv v28), (7, iv o56), (20, sv 1 p3.length ANY), (21, iv (p3.length : Int)), (22, iv v28), (27, sv 1 p3.length ANY), (32, iv (w64 ((w64 (v28 + (p3.length : Int))) - 1))), (34, iv (p3.length : Int))]) (TI.o { val := iv (Int.tmod (w64 ((w64 (v28 + (p3.length : Int))) - 1)) (p3.length : Int)) } (q_int (P := Try.prog) (op := .rem) (ty := 3) (ox := (.tmp 32)) (oy := (.tmp 34)) (k := .i64) (k' := .i64) (y := w64 ((w64 (v28 + (p3.length : Int))) - 1)) (z := (p3.length : Int)) (by kernel_rfl) (rem_ok hg58)) [1, 2, 5, 6, 7, 20, 21, 22, 27, 35] [0, 1, 2] (st 104 [(1, sv 1 p3.length ANY), (2, pt 2 0), (5, iv v27), (6, iv v28), (7, iv o56), (20, sv 1 p3.length ANY), (21, iv (p3.length : Int)), (22, iv v28), (27, sv 1 p3.length ANY), (35, iv (Int.tmod (w64 ((w64 (v28 + (p3.length : Int))) - 1)) (p3.length : Int)))]) (H34_20 p2 p3 p0 p1) (TI.o { val := .pointer (some ⟨1, 0 + (Int.toNat (Int.tmod (w64 ((w64 (v28 + (p3.length : Int))) - 1)) (p3.length : Int))) * 1, none⟩) } (q_ixS 1 0 ((Int.toNat (Int.tmod (w64 ((w64 (v28 + (p3.length : Int))) - 1)) (p3.length : Int))) * 1) (by kernel_rfl) hg59) [1, 2, 5, 6, 7, 20, 21, 22, 36] [0, 1, 2] (st 104 [(1, sv 1 p3.length ANY), (2, pt 2 0), (5, iv v27), (6, iv v28), (7, iv o56), (20, sv 1 p3.length ANY), (21, iv (p3.length : Int)), (22, iv v28), (36, .pointer (some ⟨1, 0 + (Int.toNat (Int.tmod (w64 ((w64 (v28 + (p3.length : Int))) - 1)) (p3.length : Int))) * 1, none⟩))]) (H34_20 p2 p3 p0 p1) (TI.o { val := iv o60 } (q_n1a Try.prog (H34_20 p2 p3 p0 p1) 3 1 (0 + (Int.toNat (Int.tmod (w64 ((w64 (v28 + (p3.length : Int))) - 1)) (p3.length : Int))) * 1) p3 e3 1 3 (Int.toNat (Int.tmod (w64 ((w64 (v28 + (p3.length : Int))) - 1)) (p3.length : Int))) 0 0 h61) [1, 2, 5, 6, 7, 20, 21, 22, 37] [0, 1, 2] (st 104 [(1, sv 1 p3.length ANY), (2, pt 2 0), (5, iv v27), (6, iv v28), (7, iv o56), (20, sv 1 p3.length ANY), (21, iv (p3.length : Int)), (22, iv v28), (37, iv o60)]) (H34_20 p2 p3 p0 p1) (TI.ra 1 [1, 2, 5, 6, 7, 8, 20, 21, 22] (st 104 [(1, sv 1 p3.length ANY), (2, pt 2 0), (5, iv v27), (6, iv v28), (7, iv o56), (8, iv o60), (20, sv 1 p3.length ANY), (21, iv (p3.length : Int)), (22, iv v28)]) (TI.dn (NX.sq (TS.sq ?_))))))))
    refine TS.sq ?_
    have hX := of_do hF
    clear hF
    obtain ⟨m65, hm77, hF⟩ := hX
    have hK : NX Try.prog 2 2 [.sq c34.s2.s2.s2.s1.s2.bd.bd.s2.s2.s1.bd.s2.s2.s1.s2, .sq c34.s2.s2.s2.s1.s2.bd.bd.s2.s2.s1.bd.s2.s2.s2, .bk 1, .sq c34.s2.s2.s2.s1.s2.bd.bd.s2.s2.s2] (Rd Try.prog 2 2 c34.s2.s2.s2.s1.s2.bd.bd (P34l0 p0 p1 p2 p3 r)) .normal (st 104 [(1, sv 1 p3.length ANY), (2, pt 2 0), (5, iv v27), (6, iv v28), (7, iv o56), (8, iv o60), (20, sv 1 p3.length ANY), (21, iv (p3.length : Int)), (22, iv v28), (57, .bool m65)]) (H34_20 p2 p3 p0 p1) := by
      refine NX.sq ?_
      cases m65 with
      | true =>
        replace hF := of_pos hF rfl
        refine TS.cdT (.tmp 57) (TS.sq (TS.rg (TI.rn 1 [4] [0, 1] (st 104 [(4, .bool false)]) [ab 57 e57 p2, ab 3 e3 p3, .dead] (TI.dn (NX.sq (TS.rt (NX.sqR (NX.bkR ?_))))))))
        refine NX.sqR ?_
        have hF := Option.some.inj hF
        subst hF
        exact Rd.out (e := .ret) (by intro h; cases h) (And.intro rfl (Wk.an [] (.ac (.ac (.nil _))) [.bool false] (.fl .nil)))
      | false =>
        replace hF := of_neg hF rfl
        refine TS.cdF (.tmp 57) (TS.sk (NX.sq (TS.sq ?_)))
        have hX := of_guard hF
        clear hF
        obtain ⟨hg66, hF⟩ := hX
        have hX := of_do hF
        clear hF
        obtain ⟨o67, h68, hF⟩ := hX
        replace h68 := Option.some.inj h68
        have hX := of_guard hF
        clear hF
        obtain ⟨hg69, hF⟩ := hX
        have hX := of_do hF
        clear hF
        obtain ⟨o70, h71, hF⟩ := hX
        replace h71 := Option.some.inj h71
        refine TS.draw' (id := 10) (b := true) (ops := c34.s2.s2.s2.s1.s2.bd.bd.s2.s2.s1.bd.s2.s2.s2.s1.rops) (fin := (qs (S34_0 p3 v27 v28 o56 o60 p2 o67 o70) (H34_16 p2 p3 p0 p1 o67) [(11, 4, 5), (10, 3, 4)] [(12, 3)])) (fin2 := (qs (S34_0 p3 v27 v28 o56 o60 p2 o67 o70) (H34_16 p2 p3 p0 p1 o67) [(11, 4, 5), (10, 3, 4)] [(12, 3)])) (a1 := (S34_0 p3 v27 v28 o56 o60 p2 o67 o70)) (h1 := (H34_13 p2 p3 p0 p1 o67 o70)) (a2 := (st 104 [(1, sv 1 p3.length ANY), (2, pt 2 0), (5, iv v27), (6, iv v28), (9, pt 3 0), (10, pt 4 0), (20, sv 1 p3.length ANY), (21, iv (p3.length : Int)), (22, iv v28)])) (h2 := (H34_13 p2 p3 p0 p1 o67 o70)) [] (fun e he => by cases he) mixed (by kernel_rfl) rfl 13 (by kernel_rfl) [(12, 3)] ?_ rfl (.inr ⟨?_, (by kernel_rfl)⟩) ?_ [1, 2, 5, 6, 9, 10, 20, 21, 22] [0, 1, 2, 3, 4] (by kernel_rfl) ?_
        · exact QI.run (s1 := (qs (S34_6 p3 v27 v28 o56 o60 p2) (H34_20 p2 p3 p0 p1) [] [])) 3 (by kernel_rfl) (by kernel_rfl) (QI.op (q := { val := .pointer (some ⟨0, 0 + (Int.toNat o56) * 2, none⟩) }) (s1 := (qs (S34_5 p3 v27 v28 o56 o60 p2) (H34_20 p2 p3 p0 p1) [] [])) (by decide) (q_ixS 0 0 ((Int.toNat o56) * 2) (by kernel_rfl) hg66) (by kernel_rfl) (QI.op (q := { val := ag [iv o67.1, iv o67.2] }) (s1 := (qs (S34_4 p3 v27 v28 o56 o60 p2 o67) (H34_20 p2 p3 p0 p1) [] [])) (by decide) (q_nAa Try.prog (H34_20 p2 p3 p0 p1) 57 0 (0 + (Int.toNat o56) * 2) p2 e57 2 57 (Int.toNat o56) (0, 0) h68) (by kernel_rfl) (QI.run (s1 := (qs (S34_3 p3 v27 v28 o56 o60 p2 o67) (H34_20 p2 p3 p0 p1) [] [])) 3 (by kernel_rfl) (by kernel_rfl) (QI.op (q := { val := .pointer (some ⟨0, 0 + (Int.toNat o60) * 2, none⟩) }) (s1 := (qs (S34_2 p3 v27 v28 o56 o60 p2 o67) (H34_20 p2 p3 p0 p1) [] [])) (by decide) (q_ixS 0 0 ((Int.toNat o60) * 2) (by kernel_rfl) hg69) (by kernel_rfl) (QI.op (q := { val := ag [iv o70.1, iv o70.2] }) (s1 := (qs (S34_1 p3 v27 v28 o56 o60 p2 o67 o70) (H34_20 p2 p3 p0 p1) [] [])) (by decide) (q_nAa Try.prog (H34_20 p2 p3 p0 p1) 57 0 (0 + (Int.toNat o60) * 2) p2 e57 2 57 (Int.toNat o60) (0, 0) h71) (by kernel_rfl) (QI.run (s1 := (qs (S34_0 p3 v27 v28 o56 o60 p2 o67 o70) (H34_16 p2 p3 p0 p1 o67) [(11, 4, 5), (10, 3, 4)] [(12, 3)])) 3 (by kernel_rfl) (by kernel_rfl) (QI.done (by kernel_rfl))))))))
        · exact QI.run (s1 := (qs (S34_6 p3 v27 v28 o56 o60 p2) (H34_20 p2 p3 p0 p1) [] [])) 3 (by kernel_rfl) (by kernel_rfl) (QI.op (q := { val := .pointer (some ⟨0, 0 + (Int.toNat o56) * 2, none⟩) }) (s1 := (qs (S34_5 p3 v27 v28 o56 o60 p2) (H34_20 p2 p3 p0 p1) [] [])) (by decide) (q_ixS 0 0 ((Int.toNat o56) * 2) (by kernel_rfl) hg66) (by kernel_rfl) (QI.op (q := { val := ag [iv o67.1, iv o67.2] }) (s1 := (qs (S34_4 p3 v27 v28 o56 o60 p2 o67) (H34_20 p2 p3 p0 p1) [] [])) (by decide) (q_nAa Try.prog (H34_20 p2 p3 p0 p1) 57 0 (0 + (Int.toNat o56) * 2) p2 e57 2 57 (Int.toNat o56) (0, 0) h68) (by kernel_rfl) (QI.run (s1 := (qs (S34_3 p3 v27 v28 o56 o60 p2 o67) (H34_20 p2 p3 p0 p1) [] [])) 3 (by kernel_rfl) (by kernel_rfl) (QI.op (q := { val := .pointer (some ⟨0, 0 + (Int.toNat o60) * 2, none⟩) }) (s1 := (qs (S34_2 p3 v27 v28 o56 o60 p2 o67) (H34_20 p2 p3 p0 p1) [] [])) (by decide) (q_ixS 0 0 ((Int.toNat o60) * 2) (by kernel_rfl) hg69) (by kernel_rfl) (QI.op (q := { val := ag [iv o70.1, iv o70.2] }) (s1 := (qs (S34_1 p3 v27 v28 o56 o60 p2 o67 o70) (H34_20 p2 p3 p0 p1) [] [])) (by decide) (q_nAa Try.prog (H34_20 p2 p3 p0 p1) 57 0 (0 + (Int.toNat o60) * 2) p2 e57 2 57 (Int.toNat o60) (0, 0) h71) (by kernel_rfl) (QI.run (s1 := (qs (S34_0 p3 v27 v28 o56 o60 p2 o67 o70) (H34_16 p2 p3 p0 p1 o67) [(11, 4, 5), (10, 3, 4)] [(12, 3)])) 3 (by kernel_rfl) (by kernel_rfl) (QI.done (by kernel_rfl))))))))
        · exact SI.run (a2 := (S34_0 p3 v27 v28 o56 o60 p2 o67 o70)) (h2 := (H34_13 p2 p3 p0 p1 o67 o70)) 1 (by kernel_rfl) (SI.done (by kernel_rfl))
        refine TS.sq (TS.rg (TI.ra 3 [1, 2, 5, 9, 10, 20, 21, 22, 70] (st 104 [(1, sv 1 p3.length ANY), (2, pt 2 0), (5, iv v27), (9, pt 3 0), (10, pt 4 0), (20, sv 1 p3.length ANY), (21, iv (p3.length : Int)), (22, iv v28), (70, .bool ((Int.tmod v28 2) == 0))]) (TI.dn (NX.sq ?_))))
        refine TS.cd (.tmp 70) ((Int.tmod v28 2) == 0) (fun hc72 => ?_) (fun hc72 => ?_)
        · replace hF := of_pos hF hc72
          refine TS.sq (TS.rg (TI.ra 5 [1, 2, 5, 9, 10, 20, 21, 22] (st 104 [(1, sv 1 p3.length ANY), (2, pt 2 0), (5, iv (w64 (v27 + o67.2))), (9, pt 3 0), (10, pt 4 0), (20, sv 1 p3.length ANY), (21, iv (p3.length : Int)), (22, iv v28)]) (TI.dn (NX.sq (TS.sq ?_)))))
          have hX := of_guardn hF
          clear hF
          obtain ⟨hg73, hF⟩ := hX
          refine TS.dp [] (fun e he => by cases he) mixed 10 [1, 2, 5, 20, 21, 22, 85] [0, 1, 2] (st 104 [(1, sv 1 p3.length ANY), (2, pt 2 0), (5, iv (w64 (v27 + o67.2))), (20, sv 1 p3.length ANY), (21, iv (p3.length : Int)), (22, iv v28), (85, .bool ((Int.tmod o67.1 p1) != (Int.tmod o70.1 p1)))]) (H34_19 p2 p3 p0 p1) ?_ ?_
          · exact QJ.rn (qs (st 104 [(1, sv 1 p3.length ANY), (2, pt 2 0), (5, iv (w64 (v27 + o67.2))), (9, pt 3 0), (10, pt 4 0), (20, sv 1 p3.length ANY), (21, iv (p3.length : Int)), (22, iv v28), (75, pt 3 0), (76, iv o67.1), (77, pt 2 1), (78, iv p1)]) (H34_13 p2 p3 p0 p1 o67 o70) [] []) 4 (QJ.o { val := iv (Int.tmod o67.1 p1) } (q_int (P := Try.prog) (op := .rem) (ty := 3) (ox := (.tmp 76)) (oy := (.tmp 78)) (k := .i64) (k' := .i64) (y := o67.1) (z := p1) (by kernel_rfl) (rem_ok hg73)) (QJ.rn (qs (st 104 [(1, sv 1 p3.length ANY), (2, pt 2 0), (5, iv (w64 (v27 + o67.2))), (9, pt 3 0), (10, pt 4 0), (20, sv 1 p3.length ANY), (21, iv (p3.length : Int)), (22, iv v28), (75, pt 3 0), (76, iv o67.1), (77, pt 2 1), (78, iv p1), (79, iv (Int.tmod o67.1 p1)), (80, pt 4 0), (81, iv o70.1), (82, pt 2 1), (83, iv p1)]) (H34_13 p2 p3 p0 p1 o67 o70) [] []) 4 (QJ.o { val := iv (Int.tmod o70.1 p1) } (q_int (P := Try.prog) (op := .rem) (ty := 3) (ox := (.tmp 81)) (oy := (.tmp 83)) (k := .i64) (k' := .i64) (y := o70.1) (z := p1) (by kernel_rfl) (rem_ok hg73)) (QJ.dn ⟨rfl, SJ.la⟩))))
          refine TS.cd (.tmp 85) ((Int.tmod o67.1 p1) != (Int.tmod o70.1 p1)) (fun hc74 => ?_) (fun hc74 => ?_)
          · replace hF := of_pos hF hc74
            refine TS.sq (TS.rg (TI.rn 1 [4] [0, 1] (st 104 [(4, .bool false)]) [ab 57 e57 p2, ab 3 e3 p3, .dead, .dead, .dead] (TI.dn (NX.sq (TS.rt (NX.bkR (NX.sqR ?_)))))))
            have hF := Option.some.inj hF
            subst hF
            exact Rd.out (e := .ret) (by intro h; cases h) (And.intro rfl (Wk.an [] (.ac (.ac (.nil _))) [.bool false] (.fl .nil)))
          · replace hF := of_neg hF hc74
            refine TS.sk (NX.bk (NX.sq (TS.rg (TI.ra 2 [1, 2, 5, 20, 21, 22] (S34_14 p3 v27 o67 v28) (TI.dn ?_)))))
            exact Rd.again (a2 := (S34_14 p3 v27 o67 v28)) (h2 := (H34_20 p2 p3 p0 p1)) (Wk.an [2] (.ac (.ac (.lt (.fl (.fl (.sl .nil))) (.nil _)))) [sv 1 p3.length ANY, pt 2 0, iv (w64 (v27 + o67.2)), sv 1 p3.length ANY, iv (p3.length : Int), iv (w64 (v28 + 1))] (.sl (.pp (.fl (.sl (.fl (.fl .nil))))))) (ih (w64 (v27 + o67.2)) (w64 (v28 + 1)) _ hF)
        · replace hF := of_neg hF hc72
          refine TS.sq (TS.rg (TI.ra 5 [1, 2, 5, 9, 10, 20, 21, 22] (st 104 [(1, sv 1 p3.length ANY), (2, pt 2 0), (5, iv (w64 (v27 - o67.2))), (9, pt 3 0), (10, pt 4 0), (20, sv 1 p3.length ANY), (21, iv (p3.length : Int)), (22, iv v28)]) (TI.dn (NX.sq (TS.sq ?_)))))
          have hX := of_guardn hF
          clear hF
          obtain ⟨hg75, hF⟩ := hX
          refine TS.dp [] (fun e he => by cases he) mixed 10 [1, 2, 5, 20, 21, 22, 100] [0, 1, 2] (st 104 [(1, sv 1 p3.length ANY), (2, pt 2 0), (5, iv (w64 (v27 - o67.2))), (20, sv 1 p3.length ANY), (21, iv (p3.length : Int)), (22, iv v28), (100, .bool ((Int.tmod o67.1 p0) != (Int.tmod o70.1 p0)))]) (H34_19 p2 p3 p0 p1) ?_ ?_
          · exact QJ.rn (qs (st 104 [(1, sv 1 p3.length ANY), (2, pt 2 0), (5, iv (w64 (v27 - o67.2))), (9, pt 3 0), (10, pt 4 0), (20, sv 1 p3.length ANY), (21, iv (p3.length : Int)), (22, iv v28), (90, pt 3 0), (91, iv o67.1), (92, pt 2 0), (93, iv p0)]) (H34_13 p2 p3 p0 p1 o67 o70) [] []) 4 (QJ.o { val := iv (Int.tmod o67.1 p0) } (q_int (P := Try.prog) (op := .rem) (ty := 3) (ox := (.tmp 91)) (oy := (.tmp 93)) (k := .i64) (k' := .i64) (y := o67.1) (z := p0) (by kernel_rfl) (rem_ok hg75)) (QJ.rn (qs (st 104 [(1, sv 1 p3.length ANY), (2, pt 2 0), (5, iv (w64 (v27 - o67.2))), (9, pt 3 0), (10, pt 4 0), (20, sv 1 p3.length ANY), (21, iv (p3.length : Int)), (22, iv v28), (90, pt 3 0), (91, iv o67.1), (92, pt 2 0), (93, iv p0), (94, iv (Int.tmod o67.1 p0)), (95, pt 4 0), (96, iv o70.1), (97, pt 2 0), (98, iv p0)]) (H34_13 p2 p3 p0 p1 o67 o70) [] []) 4 (QJ.o { val := iv (Int.tmod o70.1 p0) } (q_int (P := Try.prog) (op := .rem) (ty := 3) (ox := (.tmp 96)) (oy := (.tmp 98)) (k := .i64) (k' := .i64) (y := o70.1) (z := p0) (by kernel_rfl) (rem_ok hg75)) (QJ.dn ⟨rfl, SJ.la⟩))))
          refine TS.cd (.tmp 100) ((Int.tmod o67.1 p0) != (Int.tmod o70.1 p0)) (fun hc76 => ?_) (fun hc76 => ?_)
          · replace hF := of_pos hF hc76
            refine TS.sq (TS.rg (TI.rn 1 [4] [0, 1] (st 104 [(4, .bool false)]) [ab 57 e57 p2, ab 3 e3 p3, .dead, .dead, .dead] (TI.dn (NX.sq (TS.rt (NX.bkR (NX.sqR ?_)))))))
            have hF := Option.some.inj hF
            subst hF
            exact Rd.out (e := .ret) (by intro h; cases h) (And.intro rfl (Wk.an [] (.ac (.ac (.nil _))) [.bool false] (.fl .nil)))
          · replace hF := of_neg hF hc76
            refine TS.sk (NX.bk (NX.sq (TS.rg (TI.ra 2 [1, 2, 5, 20, 21, 22] (S34_15 p3 v27 o67 v28) (TI.dn ?_)))))
            exact Rd.again (a2 := (S34_15 p3 v27 o67 v28)) (h2 := (H34_20 p2 p3 p0 p1)) (Wk.an [2] (.ac (.ac (.lt (.fl (.fl (.sl .nil))) (.nil _)))) [sv 1 p3.length ANY, pt 2 0, iv (w64 (v27 - o67.2)), sv 1 p3.length ANY, iv (p3.length : Int), iv (w64 (v28 + 1))] (.sl (.pp (.fl (.sl (.fl (.fl .nil))))))) (ih (w64 (v27 - o67.2)) (w64 (v28 + 1)) _ hF)
    rcases Bool.eq_false_or_eq_true (decide (o56 < 0)) with hc62 | hc62
    · replace hm77 := of_pos hm77 hc62
      have hm77 := Option.some.inj hm77
      subst hm77
      exact TS.rg (TI.ra 1 [1, 2, 5, 6, 7, 8, 20, 21, 22, 38] (S34_12 p3 v27 v28 o56 o60) (TI.o { val := .bool true } (q_conv (e := decide (o56 < 0)) (b := true) (by kernel_rfl) hc62) [1, 2, 5, 6, 7, 8, 20, 21, 22, 39] [0, 1, 2] (st 104 [(1, sv 1 p3.length ANY), (2, pt 2 0), (5, iv v27), (6, iv v28), (7, iv o56), (8, iv o60), (20, sv 1 p3.length ANY), (21, iv (p3.length : Int)), (22, iv v28), (39, .bool true)]) (H34_20 p2 p3 p0 p1) (TI.ra 18 [1, 2, 5, 6, 7, 8, 20, 21, 22, 57] (S34_11 p3 v27 v28 o56 o60) (TI.dn hK))))
    · replace hm77 := of_neg hm77 hc62
      rcases Bool.eq_false_or_eq_true (decide (o56 ≥ (p2.length : Int))) with hc63 | hc63
      · replace hm77 := of_pos hm77 hc63
        have hm77 := Option.some.inj hm77
        subst hm77
        exact TS.rg (TI.ra 1 [1, 2, 5, 6, 7, 8, 20, 21, 22, 38] (S34_12 p3 v27 v28 o56 o60) (TI.o { val := .bool false } (q_conv (e := decide (o56 < 0)) (b := false) (by kernel_rfl) hc62) [1, 2, 5, 6, 7, 8, 20, 21, 22, 39] [0, 1, 2] (S34_10 p3 v27 v28 o56 o60) (H34_20 p2 p3 p0 p1) (TI.ra 5 [1, 2, 5, 6, 7, 8, 20, 21, 22, 40, 41, 44] (S34_7 p3 v27 v28 o56 o60 p2) (TI.o { val := .bool true } (q_conv (e := decide (o56 ≥ (p2.length : Int))) (b := true) (by kernel_rfl) hc63) [1, 2, 5, 6, 7, 8, 20, 21, 22, 40, 45] [0, 1, 2] (st 104 [(1, sv 1 p3.length ANY), (2, pt 2 0), (5, iv v27), (6, iv v28), (7, iv o56), (8, iv o60), (20, sv 1 p3.length ANY), (21, iv (p3.length : Int)), (22, iv v28), (40, .bool false), (45, .bool true)]) (H34_20 p2 p3 p0 p1) (TI.ra 12 [1, 2, 5, 6, 7, 8, 20, 21, 22, 57] (S34_11 p3 v27 v28 o56 o60) (TI.dn hK))))))
      · replace hm77 := of_neg hm77 hc63
        rcases Bool.eq_false_or_eq_true (decide (o60 < 0)) with hc64 | hc64
        · replace hm77 := of_pos hm77 hc64
          have hm77 := Option.some.inj hm77
          subst hm77
          refine TS.rg (TI.ra 1 [1, 2, 5, 6, 7, 8, 20, 21, 22, 38] (S34_12 p3 v27 v28 o56 o60) (TI.o { val := .bool false } (q_conv (e := decide (o56 < 0)) (b := false) (by kernel_rfl) hc62) [1, 2, 5, 6, 7, 8, 20, 21, 22, 39] [0, 1, 2] (S34_10 p3 v27 v28 o56 o60) (H34_20 p2 p3 p0 p1) (TI.ra 5 [1, 2, 5, 6, 7, 8, 20, 21, 22, 40, 41, 44] (S34_7 p3 v27 v28 o56 o60 p2) (TI.o { val := .bool false } (q_conv (e := decide (o56 ≥ (p2.length : Int))) (b := false) (by kernel_rfl) hc63) [1, 2, 5, 6, 7, 8, 20, 21, 22, 40, 45] [0, 1, 2] (S34_8 p3 v27 v28 o56 o60) (H34_20 p2 p3 p0 p1) (TI.ra 3 [1, 2, 5, 6, 7, 8, 20, 21, 22, 47, 48] (S34_9 p3 v27 v28 o56 o60) (TI.o { val := .bool true } (q_conv (e := decide (o60 < 0)) (b := true) (by kernel_rfl) hc64) [1, 2, 5, 6, 7, 8, 20, 21, 22, 47, 49] [0, 1, 2] (st 104 [(1, sv 1 p3.length ANY), (2, pt 2 0), (5, iv v27), (6, iv v28), (7, iv o56), (8, iv o60), (20, sv 1 p3.length ANY), (21, iv (p3.length : Int)), (22, iv v28), (47, .bool false), (49, .bool true)]) (H34_20 p2 p3 p0 p1) (TI.ra 8 [1, 2, 5, 6, 7, 8, 20, 21, 22, 57] (S34_11 p3 v27 v28 o56 o60) (TI.dn ?_))))))))
          exact hK
        · replace hm77 := of_neg hm77 hc64
          have hm77 := Option.some.inj hm77
          subst hm77
          refine TS.rg (TI.ra 1 [1, 2, 5, 6, 7, 8, 20, 21, 22, 38] (S34_12 p3 v27 v28 o56 o60) (TI.o { val := .bool false } (q_conv (e := decide (o56 < 0)) (b := false) (by kernel_rfl) hc62) [1, 2, 5, 6, 7, 8, 20, 21, 22, 39] [0, 1, 2] (S34_10 p3 v27 v28 o56 o60) (H34_20 p2 p3 p0 p1) (TI.ra 5 [1, 2, 5, 6, 7, 8, 20, 21, 22, 40, 41, 44] (S34_7 p3 v27 v28 o56 o60 p2) (TI.o { val := .bool false } (q_conv (e := decide (o56 ≥ (p2.length : Int))) (b := false) (by kernel_rfl) hc63) [1, 2, 5, 6, 7, 8, 20, 21, 22, 40, 45] [0, 1, 2] (S34_8 p3 v27 v28 o56 o60) (H34_20 p2 p3 p0 p1) (TI.ra 3 [1, 2, 5, 6, 7, 8, 20, 21, 22, 47, 48] (S34_9 p3 v27 v28 o56 o60) (TI.o { val := .bool false } (q_conv (e := decide (o60 < 0)) (b := false) (by kernel_rfl) hc64) [1, 2, 5, 6, 7, 8, 20, 21, 22, 47, 49] [0, 1, 2] (st 104 [(1, sv 1 p3.length ANY), (2, pt 2 0), (5, iv v27), (6, iv v28), (7, iv o56), (8, iv o60), (20, sv 1 p3.length ANY), (21, iv (p3.length : Int)), (22, iv v28), (47, .bool false), (49, .bool false)]) (H34_20 p2 p3 p0 p1) (TI.ra 8 [1, 2, 5, 6, 7, 8, 20, 21, 22, 57] (st 104 [(1, sv 1 p3.length ANY), (2, pt 2 0), (5, iv v27), (6, iv v28), (7, iv o56), (8, iv o60), (20, sv 1 p3.length ANY), (21, iv (p3.length : Int)), (22, iv v28), (57, .bool (decide (o60 ≥ (p2.length : Int))))]) (TI.dn ?_))))))))
          exact hK
  · replace hF := of_neg hF hc54
    refine TS.ex 0 (NX.sqX ?_)
    have hF := Option.some.inj hF
    subst hF
    exact Rd.out (e := .exit 0) (by intro h; cases h) (And.intro rfl (Wk.an [] (.ac (.ac (.nil _))) [iv v27] (.fl .nil)))
theorem B34 (p0 : Int) (p1 : Int) (p2 : (List (Int × Int))) (p3 : (List Int)) (r : Bool) (hF : F34 p0 p1 p2 p3 = some r) : TS Try.prog 2 2 c34 (st 104 [(0, ag [iv p0, iv p1, sv 0 p2.length ANY]), (1, sv 1 p3.length ANY)]) (H34_22 p2 p3) (NX Try.prog 2 2 [] (FinP Try.prog Try.f34 2 (V34 2 r) (N34 2 r))) := by
  unfold F34 at hF
  refine TS.sq (TS.rg (TI.rn 2 [1, 2] [0, 1, 2] (st 104 [(1, sv 1 p3.length ANY), (2, pt 2 0)]) (H34_20 p2 p3 p0 p1) (TI.dn (NX.sq (TS.sq (TS.sq ?_))))))
  have hX := of_do hF
  clear hF
  obtain ⟨m2, hm82, hF⟩ := hX
  have hK : NX Try.prog 2 2 [.sq c34.s2.s1.s2, .sq c34.s2.s2] (FinP Try.prog Try.f34 2 (V34 2 r) (N34 2 r)) .normal (st 104 [(1, sv 1 p3.length ANY), (2, pt 2 0), (19, .bool m2)]) (H34_20 p2 p3 p0 p1) := by
    refine NX.sq ?_
    cases m2 with
    | true =>
      replace hF := of_pos hF rfl
      refine TS.cdT (.tmp 19) (TS.sq (TS.rg (TI.rn 1 [4] [0, 1] (st 104 [(4, .bool false)]) [ab 57 e57 p2, ab 3 e3 p3, .dead] (TI.dn (NX.sq (TS.rt (NX.sqR ?_)))))))
      have hF := Option.some.inj hF
      subst hF
      exact ⟨.inr rfl, rfl, .bool false, by kernel_rfl, WkV.flat0 (by kernel_rfl) (Nat.le_of_ble_eq_true rfl)⟩
    | false =>
      replace hF := of_neg hF rfl
      refine TS.cdF (.tmp 19) (TS.sk (NX.sq (TS.sq (TS.rg (TI.ra 1 [1, 2, 5] (st 104 [(1, sv 1 p3.length ANY), (2, pt 2 0), (5, iv 0)]) (TI.dn (NX.sq (TS.sq ?_))))))))
      refine TS.sq (TS.rg (TI.ra 3 [1, 2, 5, 20, 21, 22] (S34_18 p3) (TI.dn (NX.sq (TS.bk 0 ?_)))))
      have hX := of_do hF
      clear hF
      obtain ⟨r78, h79, hF⟩ := hX
      refine TS.lp (TL.weak (a2 := (S34_18 p3)) (h2 := (H34_20 p2 p3 p0 p1)) (Wk.an [2] (.ac (.ac (.lt (.fl (.fl (.sl .nil))) (.nil _)))) [sv 1 p3.length ANY, pt 2 0, iv 0, sv 1 p3.length ANY, iv (p3.length : Int), iv 0] (.sl (.pp (.fl (.sl (.fl (.fl .nil))))))) (TL.post (L34l0 p0 p1 p2 p3 0 0 r78 h79) ?_))
      rintro e a1 h1 hp
      rcases r78 with o80 | o81
      · skip
        obtain ⟨rfl, hw⟩ := hp
        refine ⟨(st 104 [(4, .bool false)]), (H34_22 p2 p3), (NX.bkR (NX.sqR ?_)), hw⟩
        have hF := Option.some.inj hF
        subst hF
        exact ⟨.inr rfl, rfl, .bool false, by kernel_rfl, WkV.flat0 (by kernel_rfl) (Nat.le_of_ble_eq_true rfl)⟩
      · skip
        obtain ⟨rfl, hw⟩ := hp
        refine ⟨(st 104 [(5, iv o81)]), (H34_22 p2 p3), (NX.bkX (NX.sq (TS.sq (TS.rg (TI.ra 3 [4] (st 104 [(4, .bool (o81 != 0))]) (TI.dn (NX.sq (TS.rt ?_)))))))), hw⟩
        have hF := Option.some.inj hF
        subst hF
        exact ⟨.inr rfl, rfl, .bool (o81 != 0), by kernel_rfl, WkV.flat0 (by kernel_rfl) (Nat.le_of_ble_eq_true rfl)⟩
  rcases Bool.eq_false_or_eq_true (decide ((p3.length : Int) < 2)) with hc1 | hc1
  · replace hm82 := of_pos hm82 hc1
    have hm82 := Option.some.inj hm82
    subst hm82
    exact TS.rg (TI.ra 2 [1, 2, 12] (S34_21 p3) (TI.o { val := .bool true } (q_conv (e := decide ((p3.length : Int) < 2)) (b := true) (by kernel_rfl) hc1) [1, 2, 13] [0, 1, 2] (st 104 [(1, sv 1 p3.length ANY), (2, pt 2 0), (13, .bool true)]) (H34_20 p2 p3 p0 p1) (TI.ra 6 [1, 2, 19] (st 104 [(1, sv 1 p3.length ANY), (2, pt 2 0), (19, .bool true)]) (TI.dn hK))))
  · replace hm82 := of_neg hm82 hc1
    have hm82 := Option.some.inj hm82
    subst hm82
    exact TS.rg (TI.ra 2 [1, 2, 12] (S34_21 p3) (TI.o { val := .bool false } (q_conv (e := decide ((p3.length : Int) < 2)) (b := false) (by kernel_rfl) hc1) [1, 2, 13] [0, 1, 2] (st 104 [(1, sv 1 p3.length ANY), (2, pt 2 0), (13, .bool false)]) (H34_20 p2 p3 p0 p1) (TI.ra 6 [1, 2, 19] (st 104 [(1, sv 1 p3.length ANY), (2, pt 2 0), (19, .bool ((Int.tmod (p3.length : Int) 2) == 1))]) (TI.dn hK))))
theorem C34 (p0 : Int) (p1 : Int) (p2 : (List (Int × Int))) (p3 : (List Int)) (r : Bool) (hF : F34 p0 p1 p2 p3 = some r) : PureSim Try.prog 34 [ag [iv p0, iv p1, sv 0 p2.length ANY], sv 1 p3.length ANY] (H34_22 p2 p3) (V34 2 r) (N34 2 r) :=
  PureSim.of_Fin Try.func34 (c := c34) (by kernel_rfl) (by kernel_rfl) 2 rfl [0, 1] [0, 1] (by kernel_rfl) (B34 p0 p1 p2 p3 r hF)
noncomputable def c7 : Code := Try.f7.code
def S7_0 (p14 : (List Int)) (y38 : Int) (y38s : (List Int)) (o35 : Int) (r1 : (Int × Int × (List (Int × Int)))) (v19 : Int) : CAct := (st 65 [(1, sv 2 p14.length ANY), (5, pt 3 0), (6, sv 7 (List.length ((y38 :: y38s) ++ [Int.tmod (w64 o35) (r1.2.2.length : Int)])) UNK), (7, iv v19), (29, .bool true), (32, sv 5 (List.length (y38 :: y38s)) UNK), (33, sv 2 p14.length ANY), (34, iv v19), (35, .pointer (some ⟨2, 0 + (Int.toNat v19) * 1, none⟩)), (36, .int .u8 o35), (37, iv (w64 o35)), (38, pt 3 2), (39, accV 4 r1.2.2.length), (40, iv (r1.2.2.length : Int)), (41, iv (Int.tmod (w64 o35) (r1.2.2.length : Int))), (42, sv 6 1 1), (43, sv 7 (List.length ((y38 :: y38s) ++ [Int.tmod (w64 o35) (r1.2.2.length : Int)])) UNK)])
def S7_1 (p14 : (List Int)) (o35 : Int) (r1 : (Int × Int × (List (Int × Int)))) (v19 : Int) : CAct := (st 65 [(1, sv 2 p14.length ANY), (5, pt 3 0), (6, sv 7 (List.length [Int.tmod (w64 o35) (r1.2.2.length : Int)]) UNK), (7, iv v19), (29, .bool true), (32, .slice none 0 0), (33, sv 2 p14.length ANY), (34, iv v19), (35, .pointer (some ⟨2, 0 + (Int.toNat v19) * 1, none⟩)), (36, .int .u8 o35), (37, iv (w64 o35)), (38, pt 3 2), (39, accV 4 r1.2.2.length), (40, iv (r1.2.2.length : Int)), (41, iv (Int.tmod (w64 o35) (r1.2.2.length : Int))), (42, sv 6 1 1), (43, sv 7 (List.length [Int.tmod (w64 o35) (r1.2.2.length : Int)]) UNK)])
def S7_2 (p14 : (List Int)) (y38 : Int) (y38s : (List Int)) (v19 : Int) (o35 : Int) (r1 : (Int × Int × (List (Int × Int)))) : CAct := (st 65 [(1, sv 2 p14.length ANY), (5, pt 3 0), (6, sv 5 (List.length (y38 :: y38s)) UNK), (7, iv v19), (29, .bool true), (32, sv 5 (List.length (y38 :: y38s)) UNK), (33, sv 2 p14.length ANY), (34, iv v19), (35, .pointer (some ⟨2, 0 + (Int.toNat v19) * 1, none⟩)), (36, .int .u8 o35), (37, iv (w64 o35)), (38, pt 3 2), (39, accV 4 r1.2.2.length), (40, iv (r1.2.2.length : Int)), (41, iv (Int.tmod (w64 o35) (r1.2.2.length : Int))), (42, sv 6 1 1)])
def S7_3 (p14 : (List Int)) (v19 : Int) (o35 : Int) (r1 : (Int × Int × (List (Int × Int)))) : CAct := (st 65 [(1, sv 2 p14.length ANY), (5, pt 3 0), (6, .slice none 0 0), (7, iv v19), (29, .bool true), (32, .slice none 0 0), (33, sv 2 p14.length ANY), (34, iv v19), (35, .pointer (some ⟨2, 0 + (Int.toNat v19) * 1, none⟩)), (36, .int .u8 o35), (37, iv (w64 o35)), (38, pt 3 2), (39, accV 4 r1.2.2.length), (40, iv (r1.2.2.length : Int)), (41, iv (Int.tmod (w64 o35) (r1.2.2.length : Int))), (42, sv 6 1 1)])
def H7_4 (p2 : (List Int)) (p13 : (List Int)) (p14 : (List Int)) (r1 : (Int × Int × (List (Int × Int)))) (o35 : Int) (y38 : Int) (y38s : (List Int)) : List Blk := [ab 5 e5 p2, ab 5 e5 p13, ab 5 e5 p14, cl 24 [iv r1.1, iv r1.2.1, accV 4 r1.2.2.length], ab 57 e57 r1.2.2, .dead, cl 3 [iv (Int.tmod (w64 o35) (r1.2.2.length : Int))], .cells 3 (List.flatMap e3 ((y38 :: y38s) ++ [Int.tmod (w64 o35) (r1.2.2.length : Int)]))]
def H7_5 (p2 : (List Int)) (p13 : (List Int)) (p14 : (List Int)) (r1 : (Int × Int × (List (Int × Int)))) (o35 : Int) : List Blk := [ab 5 e5 p2, ab 5 e5 p13, ab 5 e5 p14, cl 24 [iv r1.1, iv r1.2.1, accV 4 r1.2.2.length], ab 57 e57 r1.2.2, .dead, cl 3 [iv (Int.tmod (w64 o35) (r1.2.2.length : Int))], .cells 3 (List.flatMap e3 ([Int.tmod (w64 o35) (r1.2.2.length : Int)]))]
def H7_6 (p2 : (List Int)) (p13 : (List Int)) (p14 : (List Int)) (r1 : (Int × Int × (List (Int × Int)))) (y38 : Int) (y38s : (List Int)) (o35 : Int) : List Blk := [ab 5 e5 p2, ab 5 e5 p13, ab 5 e5 p14, cl 24 [iv r1.1, iv r1.2.1, accV 4 r1.2.2.length], ab 57 e57 r1.2.2, .cells 3 (List.flatMap e3 (y38 :: y38s)), cl 3 [iv (Int.tmod (w64 o35) (r1.2.2.length : Int))]]
def H7_7 (p2 : (List Int)) (p13 : (List Int)) (p14 : (List Int)) (r1 : (Int × Int × (List (Int × Int)))) (o35 : Int) : List Blk := [ab 5 e5 p2, ab 5 e5 p13, ab 5 e5 p14, cl 24 [iv r1.1, iv r1.2.1, accV 4 r1.2.2.length], ab 57 e57 r1.2.2, .dead, cl 3 [iv (Int.tmod (w64 o35) (r1.2.2.length : Int))]]
def H7_8 (p2 : (List Int)) (p13 : (List Int)) (p14 : (List Int)) (r1 : (Int × Int × (List (Int × Int)))) (v20 : (List Int)) : List Blk := [ab 5 e5 p2, ab 5 e5 p13, ab 5 e5 p14, cl 24 [iv r1.1, iv r1.2.1, accV 4 r1.2.2.length], ab 57 e57 r1.2.2, ab 3 e3 v20]
def H7_9 (p2 : (List Int)) (p13 : (List Int)) (p14 : (List Int)) (r1 : (Int × Int × (List (Int × Int)))) (r42 : (List Int)) : List Blk := [ab 5 e5 p2, ab 5 e5 p13, ab 5 e5 p14, cl 24 [iv r1.1, iv r1.2.1, accV 4 r1.2.2.length], ab 57 e57 r1.2.2, ab 3 e3 r42]
def H7_10 (p2 : (List Int)) (p13 : (List Int)) (p14 : (List Int)) (r1 : (Int × Int × (List (Int × Int)))) (y38 : Int) (y38s : (List Int)) : List Blk := [ab 5 e5 p2, ab 5 e5 p13, ab 5 e5 p14, cl 24 [iv r1.1, iv r1.2.1, accV 4 r1.2.2.length], ab 57 e57 r1.2.2, .cells 3 (List.flatMap e3 (y38 :: y38s))]
def H7_11 (p2 : (List Int)) (p13 : (List Int)) (p14 : (List Int)) (r1 : (Int × Int × (List (Int × Int)))) : List Blk := [ab 5 e5 p2, ab 5 e5 p13, ab 5 e5 p14, cl 24 [iv r1.1, iv r1.2.1, accV 4 r1.2.2.length], ab 57 e57 r1.2.2, .dead]
def H7_12 (p2 : (List Int)) (p13 : (List Int)) (p14 : (List Int)) (r1 : (Int × Int × (List (Int × Int)))) : List Blk := [ab 5 e5 p2, ab 5 e5 p13, ab 5 e5 p14, .dead, ab 57 e57 r1.2.2, .dead, cl 3 [iv 0, iv 0]]
def H7_13 (p2 : (List Int)) (p13 : (List Int)) (p14 : (List Int)) (r1 : (Int × Int × (List (Int × Int)))) : List Blk := [ab 5 e5 p2, ab 5 e5 p13, ab 5 e5 p14, .dead, ab 57 e57 r1.2.2, .dead]
def H7_14 (p2 : (List Int)) (p13 : (List Int)) (p14 : (List Int)) : List Blk := [ab 5 e5 p2, ab 5 e5 p13, ab 5 e5 p14, .dead, .dead, .dead, .dead]
def S7_15 (p14 : (List Int)) (v20 : (List Int)) (v19 : Int) : CAct := (st 65 [(1, sv 2 p14.length ANY), (5, pt 3 0), (6, accV 5 v20.length), (7, iv v19), (22, iv v19), (24, iv (p14.length : Int))])
def H7_16 (p2 : (List Int)) (p13 : (List Int)) (p14 : (List Int)) : List Blk := [ab 5 e5 p2, ab 5 e5 p13, ab 5 e5 p14, .dead, .dead, .dead]
def S7_17 (r44 : Int) (r1 : (Int × Int × (List (Int × Int)))) (r42 : (List Int)) : CAct := (st 65 [(5, pt 3 0), (8, .bool (r44 == 0)), (48, .bool true), (49, ag [iv r1.1, iv r1.2.1, accV 4 r1.2.2.length]), (50, accV 5 r42.length)])
def H7_18 (r1 : (Int × Int × (List (Int × Int)))) (r42 : (List Int)) : List Blk := [ab 57 e57 r1.2.2, ab 3 e3 r42]
def S7_19 (r42 : (List Int)) (r44 : Int) : CAct := (st 65 [(5, pt 3 0), (6, accV 5 r42.length), (8, .bool (r44 == 0)), (48, .bool true)])
def S7_20 (r44 : Int) : CAct := (st 65 [(5, pt 3 0), (8, .bool (r44 == 0)), (53, .bool true)])
def F7l0 (p2 : (List Int)) (p13 : (List Int)) (p14 : (List Int)) (r1 : (Int × Int × (List (Int × Int)))) (v20 : (List Int)) (v19 : Int) : Option (List Int) :=
    (
      if decide (v19 < (p14.length : Int)) then
        some (decide (v19 < 6))
      else
        some (false)
    : Option Bool) >>= fun m33 =>
    if m33 then
      if (0 : Int) ≤ v19 ∧ v19 < (p14.length : Int) then
        some (List.getD p14 (Int.toNat v19) 0) >>= fun o35 =>
        if (r1.2.2.length : Int) = 0 then none else
        if List.length v20 ≤ 1000000000 then
          F7l0 p2 p13 p14 r1 (v20 ++ [Int.tmod (w64 o35) (r1.2.2.length : Int)]) (w64 (v19 + 1))
        else none
      else none
    else
      some v20
  partial_fixpoint
def F7 (p0 : Int) (p1 : Int) (p2 : (List Int)) (p3 : Int) (p4 : Int) (p5 : Int) (p6 : Int) (p7 : Int) (p8 : Int) (p9 : Int) (p10 : Int) (p11 : Int) (p12 : Int) (p13 : (List Int)) (p14 : (List Int)) : Option Bool :=
  F32 p0 p1 p2 p3 p4 p5 p6 p7 p8 p9 p10 p11 p12 p13 >>= fun r1 =>
  if (r1.2.2.length : Int) == 0 then
    F27 r1.1 r1.2.1 r1.2.2 ([0, 0]) >>= fun r4 =>
    (
      if r4 == 6 then
        F14 >>= fun r7 =>
        some (r7)
      else
        some (false)
    : Option Bool) >>= fun m9 =>
    some m9
  else
    F7l0 p2 p13 p14 r1 ([]) 0 >>= fun r42 =>
    F27 r1.1 r1.2.1 r1.2.2 r42 >>= fun r44 =>
    F34 r1.1 r1.2.1 r1.2.2 r42 >>= fun r46 =>
    (
      if r44 == 0 then
        if r46 then
          F21 r1.1 r1.2.1 r1.2.2 >>= fun r49 =>
          if r49 == 13 then
            F14 >>= fun r52 =>
            some (r52)
          else
            some (false)
        else
          some (false)
      else
        if r46 then
          some (false)
        else
          F14 >>= fun r54 =>
          some (r54)
    : Option Bool) >>= fun m56 =>
    some m56
def V7 (b : Nat) (r : Bool) : Value := .bool r
def N7 (b : Nat) (r : Bool) : List Blk := []
def P7l0 (p2 : (List Int)) (p13 : (List Int)) (p14 : (List Int)) (r1 : (Int × Int × (List (Int × Int)))) (r : (List Int)) : Post := fun e a h => e = .exit 0 ∧ Wk Try.prog 3 3 a h (st 65 [(5, pt 3 0), (6, accV 5 r.length)]) [ab 5 e5 p2, ab 5 e5 p13, ab 5 e5 p14, cl 24 [iv r1.1, iv r1.2.1, accV 4 r1.2.2.length], ab 57 e57 r1.2.2, ab 3 e3 r]
theorem L7l0 (p2 : (List Int)) (p13 : (List Int)) (p14 : (List Int)) (r1 : (Int × Int × (List (Int × Int)))) (v20 : (List Int)) (v19 : Int) (r : (List Int)) (hF : F7l0 p2 p13 p14 r1 v20 v19 = some r) : TL Try.prog 3 3 c7.s2.s2.s2.s2.s1.s2.bd.bd (st 65 [(1, sv 2 p14.length ANY), (5, pt 3 0), (6, accV 5 v20.length), (7, iv v19)]) (H7_8 p2 p13 p14 r1 v20) (P7l0 p2 p13 p14 r1 r) := by
  refine F7l0.partial_correctness p2 p13 p14 r1 (motive := fun v20 v19 r => TL Try.prog 3 3 c7.s2.s2.s2.s2.s1.s2.bd.bd (st 65 [(1, sv 2 p14.length ANY), (5, pt 3 0), (6, accV 5 v20.length), (7, iv v19)]) (H7_8 p2 p13 p14 r1 v20) (P7l0 p2 p13 p14 r1 r)) ?_ v20 v19 r hF
  clear hF r v20 v19
  intro again ih v20 v19 r hF
  refine TL.round (TS.sq (TS.sq ?_))
  have hX := of_do hF
  clear hF
  obtain ⟨m33, hm41, hF⟩ := hX
  have hK : NX Try.prog 3 3 [.sq c7.s2.s2.s2.s2.s1.s2.bd.bd.s1.s2, .sq c7.s2.s2.s2.s2.s1.s2.bd.bd.s2] (Rd Try.prog 3 3 c7.s2.s2.s2.s2.s1.s2.bd.bd (P7l0 p2 p13 p14 r1 r)) .normal (st 65 [(1, sv 2 p14.length ANY), (5, pt 3 0), (6, accV 5 v20.length), (7, iv v19), (29, .bool m33)]) (H7_8 p2 p13 p14 r1 v20) := by
    refine NX.sq ?_
    cases m33 with
    | true =>
      replace hF := of_pos hF rfl
      refine TS.cdT (.tmp 29) (TS.sk (NX.sq (TS.sq (TS.bk 1 ?_))))
      have hX := of_guard hF
      clear hF
      obtain ⟨hg34, hF⟩ := hX
      have hX := of_do hF
      clear hF
      obtain ⟨o35, h36, hF⟩ := hX
      replace h36 := Option.some.inj h36
      have hX := of_guardn hF
      clear hF
      obtain ⟨hg37, hF⟩ := hX
      revert hF
      generalize v20 = ly38
      intro hF
      cases ly38 with
      | nil =>
        have hX := of_guard hF
        clear hF
        obtain ⟨hg39, hF⟩ := hX
        refine TS.drawE (id := 8) (b := true) (ops := c7.s2.s2.s2.s2.s1.s2.bd.bd.s2.s1.bd.rops) (fin := (qs (S7_3 p14 v19 o35 r1) (H7_7 p2 p13 p14 r1 o35) [(10, 6, 7)] [])) (fin2 := (qs (S7_3 p14 v19 o35 r1) (H7_7 p2 p13 p14 r1 o35) [(10, 6, 7)] [])) (a1 := (S7_1 p14 o35 r1 v19)) (h1 := (H7_5 p2 p13 p14 r1 o35)) [] (fun e he => by cases he) mixed (by kernel_rfl) rfl 11 (by kernel_rfl) [] ?_ rfl (.inl ⟨rfl, rfl⟩) ?_ ?_
        · exact QI.run (s1 := (qs (st 65 [(1, sv 2 p14.length ANY), (5, pt 3 0), (6, .slice none 0 0), (7, iv v19), (29, .bool true), (32, .slice none 0 0), (33, sv 2 p14.length ANY), (34, iv v19)]) (H7_11 p2 p13 p14 r1) [] [])) 3 (by kernel_rfl) (by kernel_rfl) (QI.op (q := { val := .pointer (some ⟨2, 0 + (Int.toNat v19) * 1, none⟩) }) (s1 := (qs (st 65 [(1, sv 2 p14.length ANY), (5, pt 3 0), (6, .slice none 0 0), (7, iv v19), (29, .bool true), (32, .slice none 0 0), (33, sv 2 p14.length ANY), (34, iv v19), (35, .pointer (some ⟨2, 0 + (Int.toNat v19) * 1, none⟩))]) (H7_11 p2 p13 p14 r1) [] [])) (by decide) (q_ixS 2 0 ((Int.toNat v19) * 1) (by kernel_rfl) hg34) (by kernel_rfl) (QI.op (q := { val := .int .u8 o35 }) (s1 := (qs (st 65 [(1, sv 2 p14.length ANY), (5, pt 3 0), (6, .slice none 0 0), (7, iv v19), (29, .bool true), (32, .slice none 0 0), (33, sv 2 p14.length ANY), (34, iv v19), (35, .pointer (some ⟨2, 0 + (Int.toNat v19) * 1, none⟩)), (36, .int .u8 o35)]) (H7_11 p2 p13 p14 r1) [] [])) (by decide) (q_n1a Try.prog (H7_11 p2 p13 p14 r1) 5 2 (0 + (Int.toNat v19) * 1) p14 e5 1 5 (Int.toNat v19) 0 0 h36) (by kernel_rfl) (QI.run (s1 := (qs (st 65 [(1, sv 2 p14.length ANY), (5, pt 3 0), (6, .slice none 0 0), (7, iv v19), (29, .bool true), (32, .slice none 0 0), (33, sv 2 p14.length ANY), (34, iv v19), (35, .pointer (some ⟨2, 0 + (Int.toNat v19) * 1, none⟩)), (36, .int .u8 o35), (37, iv (w64 o35)), (38, pt 3 2), (39, accV 4 r1.2.2.length), (40, iv (r1.2.2.length : Int))]) (H7_11 p2 p13 p14 r1) [] [])) 4 (by kernel_rfl) (by kernel_rfl) (QI.op (q := { val := iv (Int.tmod (w64 o35) (r1.2.2.length : Int)) }) (s1 := (qs (st 65 [(1, sv 2 p14.length ANY), (5, pt 3 0), (6, .slice none 0 0), (7, iv v19), (29, .bool true), (32, .slice none 0 0), (33, sv 2 p14.length ANY), (34, iv v19), (35, .pointer (some ⟨2, 0 + (Int.toNat v19) * 1, none⟩)), (36, .int .u8 o35), (37, iv (w64 o35)), (38, pt 3 2), (39, accV 4 r1.2.2.length), (40, iv (r1.2.2.length : Int)), (41, iv (Int.tmod (w64 o35) (r1.2.2.length : Int)))]) (H7_11 p2 p13 p14 r1) [] [])) (by decide) (q_int (P := Try.prog) (op := .rem) (ty := 3) (ox := (.tmp 37)) (oy := (.tmp 40)) (k := .i64) (k' := .i64) (y := w64 o35) (z := (r1.2.2.length : Int)) (by kernel_rfl) (rem_ok hg37)) (by kernel_rfl) (QI.run (s1 := (qs (S7_3 p14 v19 o35 r1) (H7_7 p2 p13 p14 r1 o35) [(10, 6, 7)] [])) 1 (by kernel_rfl) (by kernel_rfl) (QI.done (by kernel_rfl)))))))
        · exact SI.op (q := { val := sv 7 (List.length [Int.tmod (w64 o35) (r1.2.2.length : Int)]) UNK, new := [.cells 3 (List.flatMap e3 ([Int.tmod (w64 o35) (r1.2.2.length : Int)]))] }) (a2 := (st 65 [(1, sv 2 p14.length ANY), (5, pt 3 0), (6, .slice none 0 0), (7, iv v19), (29, .bool true), (32, .slice none 0 0), (33, sv 2 p14.length ANY), (34, iv v19), (35, .pointer (some ⟨2, 0 + (Int.toNat v19) * 1, none⟩)), (36, .int .u8 o35), (37, iv (w64 o35)), (38, pt 3 2), (39, accV 4 r1.2.2.length), (40, iv (r1.2.2.length : Int)), (41, iv (Int.tmod (w64 o35) (r1.2.2.length : Int))), (42, sv 6 1 1), (43, sv 7 (List.length [Int.tmod (w64 o35) (r1.2.2.length : Int)]) UNK)])) (h2 := (H7_5 p2 p13 p14 r1 o35)) (by kernel_rfl) (q_appN (P := Try.prog) (base := 3) (hp := (H7_7 p2 p13 p14 r1 o35)) (n := 7) (ts := #[30, 30]) (e := 3) (bytes := 8) (z := iv 0) (y := sv 6 1 1) (ys := [Int.tmod (w64 o35) (r1.2.2.length : Int)]) (xs := List.flatMap e3 ([Int.tmod (w64 o35) (r1.2.2.length : Int)])) (m := 1) (s := 1) (enc := e3) (by kernel_rfl) (by kernel_rfl) (by kernel_rfl) (by kernel_rfl) (by kernel_rfl) (by kernel_rfl) (by kernel_rfl) (by kernel_rfl) rfl rfl (by omega)) (by kernel_rfl) (by kernel_rfl) (SI.run (a2 := (S7_1 p14 o35 r1 v19)) (h2 := (H7_5 p2 p13 p14 r1 o35)) 1 (by kernel_rfl) (SI.done (by kernel_rfl)))
        refine NX.bk (NX.sq (TS.rg (TI.rn 3 [1, 5, 6, 7] [0, 1, 2, 3, 4, 7] (st 65 [(1, sv 2 p14.length ANY), (5, pt 3 0), (6, sv 7 (List.length [Int.tmod (w64 o35) (r1.2.2.length : Int)]) UNK), (7, iv (w64 (v19 + 1)))]) [ab 5 e5 p2, ab 5 e5 p13, ab 5 e5 p14, cl 24 [iv r1.1, iv r1.2.1, accV 4 r1.2.2.length], ab 57 e57 r1.2.2, .dead, .dead, .cells 3 (List.flatMap e3 ([Int.tmod (w64 o35) (r1.2.2.length : Int)]))] (TI.dn ?_))))
        exact Rd.again (a2 := (st 65 [(1, sv 2 p14.length ANY), (5, pt 3 0), (6, accV 5 (List.length ([Int.tmod (w64 o35) (r1.2.2.length : Int)]))), (7, iv (w64 (v19 + 1)))])) (h2 := [ab 5 e5 p2, ab 5 e5 p13, ab 5 e5 p14, cl 24 [iv r1.1, iv r1.2.1, accV 4 r1.2.2.length], ab 57 e57 r1.2.2, accB 3 (List.length ([Int.tmod (w64 o35) (r1.2.2.length : Int)])) (List.flatMap e3 ([Int.tmod (w64 o35) (r1.2.2.length : Int)]))]) (Wk.an [3, 4, 7] (.ac (.ac (.ac (.lt (.fl (.fl (.cons (Rn.acc (Nat.le_of_ble_eq_true rfl) rfl) .nil))) (.ac (.cons (At.accU (by kernel_rfl) rfl (fun _ => rfl)) (.nil _))))))) [sv 2 p14.length ANY, pt 3 0, sv 7 (List.length [Int.tmod (w64 o35) (r1.2.2.length : Int)]) UNK, iv (w64 (v19 + 1))] (.sl (.pp (.cons (Rn.accU (Nat.le_of_ble_eq_true rfl) rfl (by simp)) (.fl .nil))))) (ih ([Int.tmod (w64 o35) (r1.2.2.length : Int)]) (w64 (v19 + 1)) _ hF)
      | cons y38 y38s =>
        have hX := of_guard hF
        clear hF
        obtain ⟨hg40, hF⟩ := hX
        refine TS.drawE (id := 8) (b := true) (ops := c7.s2.s2.s2.s2.s1.s2.bd.bd.s2.s1.bd.rops) (fin := (qs (S7_2 p14 y38 y38s v19 o35 r1) (H7_6 p2 p13 p14 r1 y38 y38s o35) [(10, 6, 7)] [])) (fin2 := (qs (S7_2 p14 y38 y38s v19 o35 r1) (H7_6 p2 p13 p14 r1 y38 y38s o35) [(10, 6, 7)] [])) (a1 := (S7_0 p14 y38 y38s o35 r1 v19)) (h1 := (H7_4 p2 p13 p14 r1 o35 y38 y38s)) [] (fun e he => by cases he) mixed (by kernel_rfl) rfl 11 (by kernel_rfl) [] ?_ rfl (.inl ⟨rfl, rfl⟩) ?_ ?_
        · exact QI.run (s1 := (qs (st 65 [(1, sv 2 p14.length ANY), (5, pt 3 0), (6, sv 5 (List.length (y38 :: y38s)) UNK), (7, iv v19), (29, .bool true), (32, sv 5 (List.length (y38 :: y38s)) UNK), (33, sv 2 p14.length ANY), (34, iv v19)]) (H7_10 p2 p13 p14 r1 y38 y38s) [] [])) 3 (by kernel_rfl) (by kernel_rfl) (QI.op (q := { val := .pointer (some ⟨2, 0 + (Int.toNat v19) * 1, none⟩) }) (s1 := (qs (st 65 [(1, sv 2 p14.length ANY), (5, pt 3 0), (6, sv 5 (List.length (y38 :: y38s)) UNK), (7, iv v19), (29, .bool true), (32, sv 5 (List.length (y38 :: y38s)) UNK), (33, sv 2 p14.length ANY), (34, iv v19), (35, .pointer (some ⟨2, 0 + (Int.toNat v19) * 1, none⟩))]) (H7_10 p2 p13 p14 r1 y38 y38s) [] [])) (by decide) (q_ixS 2 0 ((Int.toNat v19) * 1) (by kernel_rfl) hg34) (by kernel_rfl) (QI.op (q := { val := .int .u8 o35 }) (s1 := (qs (st 65 [(1, sv 2 p14.length ANY), (5, pt 3 0), (6, sv 5 (List.length (y38 :: y38s)) UNK), (7, iv v19), (29, .bool true), (32, sv 5 (List.length (y38 :: y38s)) UNK), (33, sv 2 p14.length ANY), (34, iv v19), (35, .pointer (some ⟨2, 0 + (Int.toNat v19) * 1, none⟩)), (36, .int .u8 o35)]) (H7_10 p2 p13 p14 r1 y38 y38s) [] [])) (by decide) (q_n1a Try.prog (H7_10 p2 p13 p14 r1 y38 y38s) 5 2 (0 + (Int.toNat v19) * 1) p14 e5 1 5 (Int.toNat v19) 0 0 h36) (by kernel_rfl) (QI.run (s1 := (qs (st 65 [(1, sv 2 p14.length ANY), (5, pt 3 0), (6, sv 5 (List.length (y38 :: y38s)) UNK), (7, iv v19), (29, .bool true), (32, sv 5 (List.length (y38 :: y38s)) UNK), (33, sv 2 p14.length ANY), (34, iv v19), (35, .pointer (some ⟨2, 0 + (Int.toNat v19) * 1, none⟩)), (36, .int .u8 o35), (37, iv (w64 o35)), (38, pt 3 2), (39, accV 4 r1.2.2.length), (40, iv (r1.2.2.length : Int))]) (H7_10 p2 p13 p14 r1 y38 y38s) [] [])) 4 (by kernel_rfl) (by kernel_rfl) (QI.op (q := { val := iv (Int.tmod (w64 o35) (r1.2.2.length : Int)) }) (s1 := (qs (st 65 [(1, sv 2 p14.length ANY), (5, pt 3 0), (6, sv 5 (List.length (y38 :: y38s)) UNK), (7, iv v19), (29, .bool true), (32, sv 5 (List.length (y38 :: y38s)) UNK), (33, sv 2 p14.length ANY), (34, iv v19), (35, .pointer (some ⟨2, 0 + (Int.toNat v19) * 1, none⟩)), (36, .int .u8 o35), (37, iv (w64 o35)), (38, pt 3 2), (39, accV 4 r1.2.2.length), (40, iv (r1.2.2.length : Int)), (41, iv (Int.tmod (w64 o35) (r1.2.2.length : Int)))]) (H7_10 p2 p13 p14 r1 y38 y38s) [] [])) (by decide) (q_int (P := Try.prog) (op := .rem) (ty := 3) (ox := (.tmp 37)) (oy := (.tmp 40)) (k := .i64) (k' := .i64) (y := w64 o35) (z := (r1.2.2.length : Int)) (by kernel_rfl) (rem_ok hg37)) (by kernel_rfl) (QI.run (s1 := (qs (S7_2 p14 y38 y38s v19 o35 r1) (H7_6 p2 p13 p14 r1 y38 y38s o35) [(10, 6, 7)] [])) 1 (by kernel_rfl) (by kernel_rfl) (QI.done (by kernel_rfl)))))))
        · exact SI.op (q := { val := sv 7 (List.length ((y38 :: y38s) ++ [Int.tmod (w64 o35) (r1.2.2.length : Int)])) UNK, new := [.cells 3 (List.flatMap e3 ((y38 :: y38s) ++ [Int.tmod (w64 o35) (r1.2.2.length : Int)]))], upd := some (5, .dead) }) (a2 := (st 65 [(1, sv 2 p14.length ANY), (5, pt 3 0), (6, sv 5 (List.length (y38 :: y38s)) UNK), (7, iv v19), (29, .bool true), (32, sv 5 (List.length (y38 :: y38s)) UNK), (33, sv 2 p14.length ANY), (34, iv v19), (35, .pointer (some ⟨2, 0 + (Int.toNat v19) * 1, none⟩)), (36, .int .u8 o35), (37, iv (w64 o35)), (38, pt 3 2), (39, accV 4 r1.2.2.length), (40, iv (r1.2.2.length : Int)), (41, iv (Int.tmod (w64 o35) (r1.2.2.length : Int))), (42, sv 6 1 1), (43, sv 7 (List.length ((y38 :: y38s) ++ [Int.tmod (w64 o35) (r1.2.2.length : Int)])) UNK)])) (h2 := (H7_4 p2 p13 p14 r1 o35 y38 y38s)) (by kernel_rfl) (q_appU (P := Try.prog) (base := 3) (hp := (H7_6 p2 p13 p14 r1 y38 y38s o35)) (n := 7) (l := (y38 :: y38s)) (b := 5) (ts := #[30, 30]) (e := 3) (bytes := 8) (z := iv 0) (y := sv 6 1 1) (ys := [Int.tmod (w64 o35) (r1.2.2.length : Int)]) (xs := List.flatMap e3 ([Int.tmod (w64 o35) (r1.2.2.length : Int)])) (m := 1) (s := 1) (enc := e3) (by kernel_rfl) (by kernel_rfl) (by decide) (by kernel_rfl) (by kernel_rfl) (by kernel_rfl) (by kernel_rfl) (by kernel_rfl) (by kernel_rfl) (by kernel_rfl) (by kernel_rfl) (fun _ => rfl) rfl rfl (by omega)) (by kernel_rfl) (by kernel_rfl) (SI.run (a2 := (S7_0 p14 y38 y38s o35 r1 v19)) (h2 := (H7_4 p2 p13 p14 r1 o35 y38 y38s)) 1 (by kernel_rfl) (SI.done (by kernel_rfl)))
        refine NX.bk (NX.sq (TS.rg (TI.rn 3 [1, 5, 6, 7] [0, 1, 2, 3, 4, 7] (st 65 [(1, sv 2 p14.length ANY), (5, pt 3 0), (6, sv 7 (List.length ((y38 :: y38s) ++ [Int.tmod (w64 o35) (r1.2.2.length : Int)])) UNK), (7, iv (w64 (v19 + 1)))]) [ab 5 e5 p2, ab 5 e5 p13, ab 5 e5 p14, cl 24 [iv r1.1, iv r1.2.1, accV 4 r1.2.2.length], ab 57 e57 r1.2.2, .dead, .dead, .cells 3 (List.flatMap e3 ((y38 :: y38s) ++ [Int.tmod (w64 o35) (r1.2.2.length : Int)]))] (TI.dn ?_))))
        exact Rd.again (a2 := (st 65 [(1, sv 2 p14.length ANY), (5, pt 3 0), (6, accV 5 (List.length ((y38 :: y38s) ++ [Int.tmod (w64 o35) (r1.2.2.length : Int)]))), (7, iv (w64 (v19 + 1)))])) (h2 := [ab 5 e5 p2, ab 5 e5 p13, ab 5 e5 p14, cl 24 [iv r1.1, iv r1.2.1, accV 4 r1.2.2.length], ab 57 e57 r1.2.2, accB 3 (List.length ((y38 :: y38s) ++ [Int.tmod (w64 o35) (r1.2.2.length : Int)])) (List.flatMap e3 ((y38 :: y38s) ++ [Int.tmod (w64 o35) (r1.2.2.length : Int)]))]) (Wk.an [3, 4, 7] (.ac (.ac (.ac (.lt (.fl (.fl (.cons (Rn.acc (Nat.le_of_ble_eq_true rfl) rfl) .nil))) (.ac (.cons (At.accU (by kernel_rfl) rfl (fun _ => rfl)) (.nil _))))))) [sv 2 p14.length ANY, pt 3 0, sv 7 (List.length ((y38 :: y38s) ++ [Int.tmod (w64 o35) (r1.2.2.length : Int)])) UNK, iv (w64 (v19 + 1))] (.sl (.pp (.cons (Rn.accU (Nat.le_of_ble_eq_true rfl) rfl (by simp)) (.fl .nil))))) (ih ((y38 :: y38s) ++ [Int.tmod (w64 o35) (r1.2.2.length : Int)]) (w64 (v19 + 1)) _ hF)
    | false =>
      replace hF := of_neg hF rfl
      refine TS.cdF (.tmp 29) (TS.ex 0 (NX.sqX ?_))
      have hF := Option.some.inj hF
      subst hF
      exact Rd.out (e := .exit 0) (by intro h; cases h) (And.intro rfl (Wk.an [3, 4, 5] (.ac (.ac (.ac (.lt (.fl (.fl (.cons (Rn.acc (Nat.le_of_ble_eq_true rfl) rfl) .nil))) (.ac (.ac (.nil _))))))) [pt 3 0, accV 5 v20.length] (.pp (.cons (Rn.acc (Nat.le_of_ble_eq_true rfl) rfl) .nil))))
  rcases Bool.eq_false_or_eq_true (decide (v19 < (p14.length : Int))) with hc32 | hc32
  · replace hm41 := of_pos hm41 hc32
    have hm41 := Option.some.inj hm41
    subst hm41
    exact TS.rg (TI.ra 3 [1, 5, 6, 7, 22, 24] (S7_15 p14 v20 v19) (TI.o { val := .bool true } (q_conv (e := decide (v19 < (p14.length : Int))) (b := true) (by kernel_rfl) hc32) [1, 5, 6, 7, 25] [0, 1, 2, 3, 4, 5] (st 65 [(1, sv 2 p14.length ANY), (5, pt 3 0), (6, accV 5 v20.length), (7, iv v19), (25, .bool true)]) (H7_8 p2 p13 p14 r1 v20) (TI.ra 4 [1, 5, 6, 7, 29] (st 65 [(1, sv 2 p14.length ANY), (5, pt 3 0), (6, accV 5 v20.length), (7, iv v19), (29, .bool (decide (v19 < 6)))]) (TI.dn hK))))
  · replace hm41 := of_neg hm41 hc32
    have hm41 := Option.some.inj hm41
    subst hm41
    exact TS.rg (TI.ra 3 [1, 5, 6, 7, 22, 24] (S7_15 p14 v20 v19) (TI.o { val := .bool false } (q_conv (e := decide (v19 < (p14.length : Int))) (b := false) (by kernel_rfl) hc32) [1, 5, 6, 7, 25] [0, 1, 2, 3, 4, 5] (st 65 [(1, sv 2 p14.length ANY), (5, pt 3 0), (6, accV 5 v20.length), (7, iv v19), (25, .bool false)]) (H7_8 p2 p13 p14 r1 v20) (TI.ra 4 [1, 5, 6, 7, 29] (st 65 [(1, sv 2 p14.length ANY), (5, pt 3 0), (6, accV 5 v20.length), (7, iv v19), (29, .bool false)]) (TI.dn hK))))
theorem B7 (p0 : Int) (p1 : Int) (p2 : (List Int)) (p3 : Int) (p4 : Int) (p5 : Int) (p6 : Int) (p7 : Int) (p8 : Int) (p9 : Int) (p10 : Int) (p11 : Int) (p12 : Int) (p13 : (List Int)) (p14 : (List Int)) (r : Bool) (hF : F7 p0 p1 p2 p3 p4 p5 p6 p7 p8 p9 p10 p11 p12 p13 p14 = some r) : TS Try.prog 3 3 c7 (st 65 [(0, ag [.int .u8 p0, .int .u8 p1, sv 0 p2.length ANY, .int .u8 p3, .int .u8 p4, .int .u8 p5, .int .u8 p6, .int .u8 p7, .int .u8 p8, .int .u8 p9, .int .u8 p10, .int .u8 p11, .int .u8 p12, sv 1 p13.length ANY]), (1, sv 2 p14.length ANY)]) [ab 5 e5 p2, ab 5 e5 p13, ab 5 e5 p14] (NX Try.prog 3 3 [] (FinP Try.prog Try.f7 3 (V7 3 r) (N7 3 r))) := by
  unfold F7 at hF
  refine TS.sq (TS.rg (TI.rn 2 [1, 2] [0, 1, 2, 3] (st 65 [(1, sv 2 p14.length ANY), (2, pt 3 0)]) [ab 5 e5 p2, ab 5 e5 p13, ab 5 e5 p14, cl 53 [.int .u8 p0, .int .u8 p1, sv 0 p2.length ANY, .int .u8 p3, .int .u8 p4, .int .u8 p5, .int .u8 p6, .int .u8 p7, .int .u8 p8, .int .u8 p9, .int .u8 p10, .int .u8 p11, .int .u8 p12, sv 1 p13.length ANY]] (TI.dn (NX.sq (TS.sq ?_)))))
  have hX := of_do hF
  clear hF
  obtain ⟨r1, h2, hF⟩ := hX
  refine TS.rg (TI.rn 1 [1, 9] [0, 1, 2] (st 65 [(1, sv 2 p14.length ANY), (9, ag [.int .u8 p0, .int .u8 p1, sv 0 p2.length ANY, .int .u8 p3, .int .u8 p4, .int .u8 p5, .int .u8 p6, .int .u8 p7, .int .u8 p8, .int .u8 p9, .int .u8 p10, .int .u8 p11, .int .u8 p12, sv 1 p13.length ANY])]) [ab 5 e5 p2, ab 5 e5 p13, ab 5 e5 p14, .dead] (TI.cp 32 [ag [.int .u8 p0, .int .u8 p1, sv 0 p2.length ANY, .int .u8 p3, .int .u8 p4, .int .u8 p5, .int .u8 p6, .int .u8 p7, .int .u8 p8, .int .u8 p9, .int .u8 p10, .int .u8 p11, .int .u8 p12, sv 1 p13.length ANY]] (ag [iv r1.1, iv r1.2.1, accV 4 r1.2.2.length]) [ab 57 e57 r1.2.2] (PureSim.ren (hc := [ab 5 e5 p2, ab 5 e5 p13]) (fun i => List.getD [(0, 0), (1, 0)] i (0, 0)) (C32 _ _ _ _ _ _ _ _ _ _ _ _ _ _ _ h2) (.ac (.ac (.nil _))) (.cons (Rn.agg' (.fl (.fl (.cons (Rn.any _ _ _ _ _ _ (Nat.le_of_ble_eq_true rfl) rfl rfl (by decide)) (.fl (.fl (.fl (.fl (.fl (.fl (.fl (.fl (.fl (.fl (.cons (Rn.any _ _ _ _ _ _ (Nat.le_of_ble_eq_true rfl) rfl rfl (by decide)) .nil))))))))))))))) .nil) (Rn.agg' (.fl (.fl (.cons (Rn.acc (i' := 4) (Nat.le_of_ble_eq_true rfl) rfl) .nil)))) (newflat_cons (accB_flat (fun _ => rfl)) newflat_nil)) (TI.rn 2 [1, 5] [0, 1, 2, 4, 5] (st 65 [(1, sv 2 p14.length ANY), (5, pt 5 0)]) [ab 5 e5 p2, ab 5 e5 p13, ab 5 e5 p14, .dead, ab 57 e57 r1.2.2, cl 24 [iv r1.1, iv r1.2.1, accV 4 r1.2.2.length]] (TI.dn (NX.sq (TS.sq (TS.sq (TS.rg ?_))))))))
  refine TI.ra 4 [1, 5, 14] (st 65 [(1, sv 2 p14.length ANY), (5, pt 5 0), (14, .bool ((r1.2.2.length : Int) == 0))]) (TI.dn (NX.sq ?_))
  refine TS.cd (.tmp 14) ((r1.2.2.length : Int) == 0) (fun hc3 => ?_) (fun hc3 => ?_)
  · replace hF := of_pos hF hc3
    refine TS.sq ?_
    have hX := of_do hF
    clear hF
    obtain ⟨r4, h5, hF⟩ := hX
    have hX := of_do hF
    clear hF
    obtain ⟨m9, hm10, hF⟩ := hX
    have hK : NX Try.prog 3 3 [.sq c7.s2.s2.s1.s2.th.s2, .sq c7.s2.s2.s2] (FinP Try.prog Try.f7 3 (V7 3 r) (N7 3 r)) .normal (st 65 [(4, .bool m9)]) (H7_14 p2 p13 p14) := by
      refine NX.sq (TS.rt (NX.sqR ?_))
      have hF := Option.some.inj hF
      subst hF
      exact ⟨.inr rfl, rfl, .bool m9, by kernel_rfl, WkV.flat0 (by kernel_rfl) (Nat.le_of_ble_eq_true rfl)⟩
    rcases Bool.eq_false_or_eq_true (r4 == 6) with hc6 | hc6
    · replace hm10 := of_pos hm10 hc6
      have hX := of_do hm10
      clear hm10
      obtain ⟨r7, h8, hm10⟩ := hX
      have hm10 := Option.some.inj hm10
      subst hm10
      exact TS.rg (TI.rn 2 [15, 16] [0, 1, 2, 4, 6] (st 65 [(15, ag [iv r1.1, iv r1.2.1, accV 4 r1.2.2.length]), (16, sv 6 2 2)]) (H7_12 p2 p13 p14 r1) (TI.callM (g := 27) (args := [ag [iv r1.1, iv r1.2.1, accV 4 r1.2.2.length], sv 6 2 2]) (v := iv r4) (new := []) (by kernel_rfl) (PureSim.ren (hc := [ab 57 e57 r1.2.2, accB 3 (List.length ([0, 0])) (List.flatMap e3 ([0, 0]))]) (fun i => List.getD [(4, 0), (6, 0)] i (0, 0)) (C27 _ _ _ _ _ h5) (.ac (.cons (At.accU (by kernel_rfl) rfl (fun _ => rfl)) (.nil _))) (.cons (Rn.agg' (.fl (.fl (.cons (Rn.accA (i' := 4) (Nat.le_of_ble_eq_true rfl) rfl) .nil)))) (.cons (Rn.any _ _ _ _ _ _ (Nat.le_of_ble_eq_true rfl) rfl rfl (by decide)) .nil)) (.flat (by kernel_rfl)) newflat_nil) [17] [0, 1, 2] (a2 := (st 65 [(17, iv r4)])) (h2 := (H7_14 p2 p13 p14)) (by kernel_rfl) (TI.o { val := .bool true } (q_conv (e := r4 == 6) (b := true) (by kernel_rfl) hc6) [18] [0, 1, 2] (st 65 [(18, .bool true)]) (H7_14 p2 p13 p14) (TI.ra 1 [19] (st 65 [(19, .bool true)]) (TI.cf (C14 _ h8) (TI.ra 2 [4] (st 65 [(4, .bool r7)]) (TI.dn hK)))))))
    · replace hm10 := of_neg hm10 hc6
      have hm10 := Option.some.inj hm10
      subst hm10
      exact TS.rg (TI.rn 2 [15, 16] [0, 1, 2, 4, 6] (st 65 [(15, ag [iv r1.1, iv r1.2.1, accV 4 r1.2.2.length]), (16, sv 6 2 2)]) (H7_12 p2 p13 p14 r1) (TI.callM (g := 27) (args := [ag [iv r1.1, iv r1.2.1, accV 4 r1.2.2.length], sv 6 2 2]) (v := iv r4) (new := []) (by kernel_rfl) (PureSim.ren (hc := [ab 57 e57 r1.2.2, accB 3 (List.length ([0, 0])) (List.flatMap e3 ([0, 0]))]) (fun i => List.getD [(4, 0), (6, 0)] i (0, 0)) (C27 _ _ _ _ _ h5) (.ac (.cons (At.accU (by kernel_rfl) rfl (fun _ => rfl)) (.nil _))) (.cons (Rn.agg' (.fl (.fl (.cons (Rn.accA (i' := 4) (Nat.le_of_ble_eq_true rfl) rfl) .nil)))) (.cons (Rn.any _ _ _ _ _ _ (Nat.le_of_ble_eq_true rfl) rfl rfl (by decide)) .nil)) (.flat (by kernel_rfl)) newflat_nil) [17] [0, 1, 2] (a2 := (st 65 [(17, iv r4)])) (h2 := (H7_14 p2 p13 p14)) (by kernel_rfl) (TI.o { val := .bool false } (q_conv (e := r4 == 6) (b := false) (by kernel_rfl) hc6) [18] [0, 1, 2] (st 65 [(18, .bool false)]) (H7_14 p2 p13 p14) (TI.ra 4 [4] (st 65 [(4, .bool false)]) (TI.dn hK)))))
  · replace hF := of_neg hF hc3
    refine TS.sk (NX.sq (TS.sq (TS.rg (TI.ra 1 [1, 5, 6] (st 65 [(1, sv 2 p14.length ANY), (5, pt 5 0), (6, .slice none 0 0)]) (TI.dn (NX.sq (TS.sq (TS.sq ?_))))))))
    refine TS.rg (TI.ra 1 [1, 5, 6, 7] (st 65 [(1, sv 2 p14.length ANY), (5, pt 5 0), (6, .slice none 0 0), (7, iv 0)]) (TI.dn (NX.sq (TS.bk 0 ?_))))
    have hX := of_do hF
    clear hF
    obtain ⟨r42, h43, hF⟩ := hX
    refine TS.lp (TL.weak (a2 := (st 65 [(1, sv 2 p14.length ANY), (5, pt 3 0), (6, accV 5 (List.length ([]))), (7, iv 0)])) (h2 := [ab 5 e5 p2, ab 5 e5 p13, ab 5 e5 p14, cl 24 [iv r1.1, iv r1.2.1, accV 4 r1.2.2.length], ab 57 e57 r1.2.2, accB 3 (List.length ([])) (List.flatMap e3 ([]))]) (Wk.an [5, 4, 6] (.ac (.ac (.ac (.lt (.fl (.fl (.cons (Rn.acc (Nat.le_of_ble_eq_true rfl) rfl) .nil))) (.ac (.cons At.accN (.nil _))))))) [sv 2 p14.length ANY, pt 5 0, .slice none 0 0, iv 0] (.sl (.pp (.cons (Rn.accN) (.fl .nil))))) (TL.post (L7l0 p2 p13 p14 r1 ([]) 0 r42 h43) ?_))
    rintro e a1 h1 hp
    obtain ⟨rfl, hw⟩ := hp
    refine ⟨(st 65 [(5, pt 3 0), (6, accV 5 r42.length)]), (H7_9 p2 p13 p14 r1 r42), (NX.bkX (NX.sq (TS.sq ?_))), hw⟩
    have hX := of_do hF
    clear hF
    obtain ⟨r44, h45, hF⟩ := hX
    refine TS.rg (TI.ra 2 [5, 6, 44, 45] (st 65 [(5, pt 3 0), (6, accV 5 r42.length), (44, ag [iv r1.1, iv r1.2.1, accV 4 r1.2.2.length]), (45, accV 5 r42.length)]) (TI.cp 27 [ag [iv r1.1, iv r1.2.1, accV 4 r1.2.2.length], accV 5 r42.length] (iv r44) [] (PureSim.ren (hc := (H7_18 r1 r42)) (fun i => List.getD [(4, 0), (5, 0)] i (0, 0)) (C27 _ _ _ _ _ h45) (.ac (.ac (.nil _))) (.cons (Rn.agg' (.fl (.fl (.cons (Rn.accA (i' := 4) (Nat.le_of_ble_eq_true rfl) rfl) .nil)))) (.cons (Rn.accA (i' := 5) (Nat.le_of_ble_eq_true rfl) rfl) .nil)) (.flat (by kernel_rfl)) newflat_nil) (TI.ra 2 [5, 6, 8] (st 65 [(5, pt 3 0), (6, accV 5 r42.length), (8, .bool (r44 == 0))]) (TI.dn (NX.sq (TS.sq ?_))))))
    have hX := of_do hF
    clear hF
    obtain ⟨r46, h47, hF⟩ := hX
    have hX := of_do hF
    clear hF
    obtain ⟨m56, hm57, hF⟩ := hX
    have hK : NX Try.prog 3 3 [.sq c7.s2.s2.s2.s2.s2.s2.s2] (FinP Try.prog Try.f7 3 (V7 3 r) (N7 3 r)) .normal (st 65 [(4, .bool m56)]) (H7_16 p2 p13 p14) := by
      refine NX.sq (TS.rt ?_)
      have hF := Option.some.inj hF
      subst hF
      exact ⟨.inr rfl, rfl, .bool m56, by kernel_rfl, WkV.flat0 (by kernel_rfl) (Nat.le_of_ble_eq_true rfl)⟩
    rcases Bool.eq_false_or_eq_true (r44 == 0) with hc48 | hc48
    · replace hm57 := of_pos hm57 hc48
      cases r46 with
      | true =>
        replace hm57 := of_pos hm57 rfl
        have hX := of_do hm57
        clear hm57
        obtain ⟨r49, h50, hm57⟩ := hX
        rcases Bool.eq_false_or_eq_true (r49 == 13) with hc51 | hc51
        · replace hm57 := of_pos hm57 hc51
          have hX := of_do hm57
          clear hm57
          obtain ⟨r52, h53, hm57⟩ := hX
          have hm57 := Option.some.inj hm57
          subst hm57
          refine TS.rg (TI.o { val := .bool true } (q_conv (e := r44 == 0) (b := true) (by kernel_rfl) hc48) [5, 6, 8, 48] [0, 1, 2, 3, 4, 5] (S7_19 r42 r44) (H7_9 p2 p13 p14 r1 r42) (TI.ra 2 [5, 8, 48, 49, 50] (S7_17 r44 r1 r42) (TI.cp 34 [ag [iv r1.1, iv r1.2.1, accV 4 r1.2.2.length], accV 5 r42.length] (.bool true) [] (PureSim.ren (hc := (H7_18 r1 r42)) (fun i => List.getD [(4, 0), (5, 0)] i (0, 0)) (C34 _ _ _ _ _ h47) (.ac (.ac (.nil _))) (.cons (Rn.agg' (.fl (.fl (.cons (Rn.accA (i' := 4) (Nat.le_of_ble_eq_true rfl) rfl) .nil)))) (.cons (Rn.accA (i' := 5) (Nat.le_of_ble_eq_true rfl) rfl) .nil)) (.flat (by kernel_rfl)) newflat_nil) (TI.rn 2 [5, 8, 53] [0, 1, 2, 3, 4] (S7_20 r44) (H7_11 p2 p13 p14 r1) (TI.o { val := .bool true } (q_conv (e := r44 == 0) (b := true) (by kernel_rfl) hc48) [5, 53, 54] [0, 1, 2, 3, 4] (st 65 [(5, pt 3 0), (53, .bool true), (54, .bool true)]) (H7_11 p2 p13 p14 r1) (TI.rn 3 [53, 56, 57] [0, 1, 2, 4] (st 65 [(53, .bool true), (56, .bool false), (57, ag [iv r1.1, iv r1.2.1, accV 4 r1.2.2.length])]) (H7_13 p2 p13 p14 r1) (TI.callM (g := 21) (args := [ag [iv r1.1, iv r1.2.1, accV 4 r1.2.2.length]]) (v := iv r49) (new := []) (by kernel_rfl) (PureSim.ren (hc := [ab 57 e57 r1.2.2]) (fun i => List.getD [(4, 0)] i (0, 0)) (C21 _ _ _ _ h50) (.ac (.nil _)) (.cons (Rn.agg' (.fl (.fl (.cons (Rn.accA (i' := 4) (Nat.le_of_ble_eq_true rfl) rfl) .nil)))) .nil) (.flat (by kernel_rfl)) newflat_nil) [53, 56, 58] [0, 1, 2] (a2 := (st 65 [(53, .bool true), (56, .bool false), (58, iv r49)])) (h2 := (H7_16 p2 p13 p14)) (by kernel_rfl) (TI.o { val := .bool true } (q_conv (e := r49 == 13) (b := true) (by kernel_rfl) hc51) [53, 56, 59] [0, 1, 2] (st 65 [(53, .bool true), (56, .bool false), (59, .bool true)]) (H7_16 p2 p13 p14) ?_))))))))
          exact TI.ra 3 [62] (st 65 [(62, .bool true)]) (TI.cf (C14 _ h53) (TI.ra 2 [4] (st 65 [(4, .bool r52)]) (TI.dn hK)))
        · replace hm57 := of_neg hm57 hc51
          have hm57 := Option.some.inj hm57
          subst hm57
          refine TS.rg (TI.o { val := .bool true } (q_conv (e := r44 == 0) (b := true) (by kernel_rfl) hc48) [5, 6, 8, 48] [0, 1, 2, 3, 4, 5] (S7_19 r42 r44) (H7_9 p2 p13 p14 r1 r42) (TI.ra 2 [5, 8, 48, 49, 50] (S7_17 r44 r1 r42) (TI.cp 34 [ag [iv r1.1, iv r1.2.1, accV 4 r1.2.2.length], accV 5 r42.length] (.bool true) [] (PureSim.ren (hc := (H7_18 r1 r42)) (fun i => List.getD [(4, 0), (5, 0)] i (0, 0)) (C34 _ _ _ _ _ h47) (.ac (.ac (.nil _))) (.cons (Rn.agg' (.fl (.fl (.cons (Rn.accA (i' := 4) (Nat.le_of_ble_eq_true rfl) rfl) .nil)))) (.cons (Rn.accA (i' := 5) (Nat.le_of_ble_eq_true rfl) rfl) .nil)) (.flat (by kernel_rfl)) newflat_nil) (TI.rn 2 [5, 8, 53] [0, 1, 2, 3, 4] (S7_20 r44) (H7_11 p2 p13 p14 r1) (TI.o { val := .bool true } (q_conv (e := r44 == 0) (b := true) (by kernel_rfl) hc48) [5, 53, 54] [0, 1, 2, 3, 4] (st 65 [(5, pt 3 0), (53, .bool true), (54, .bool true)]) (H7_11 p2 p13 p14 r1) (TI.rn 3 [53, 56, 57] [0, 1, 2, 4] (st 65 [(53, .bool true), (56, .bool false), (57, ag [iv r1.1, iv r1.2.1, accV 4 r1.2.2.length])]) (H7_13 p2 p13 p14 r1) (TI.callM (g := 21) (args := [ag [iv r1.1, iv r1.2.1, accV 4 r1.2.2.length]]) (v := iv r49) (new := []) (by kernel_rfl) (PureSim.ren (hc := [ab 57 e57 r1.2.2]) (fun i => List.getD [(4, 0)] i (0, 0)) (C21 _ _ _ _ h50) (.ac (.nil _)) (.cons (Rn.agg' (.fl (.fl (.cons (Rn.accA (i' := 4) (Nat.le_of_ble_eq_true rfl) rfl) .nil)))) .nil) (.flat (by kernel_rfl)) newflat_nil) [53, 56, 58] [0, 1, 2] (a2 := (st 65 [(53, .bool true), (56, .bool false), (58, iv r49)])) (h2 := (H7_16 p2 p13 p14)) (by kernel_rfl) (TI.o { val := .bool false } (q_conv (e := r49 == 13) (b := false) (by kernel_rfl) hc51) [53, 56, 59] [0, 1, 2] (st 65 [(53, .bool true), (56, .bool false), (59, .bool false)]) (H7_16 p2 p13 p14) ?_))))))))
          exact TI.ra 6 [4] (st 65 [(4, .bool false)]) (TI.dn hK)
      | false =>
        replace hm57 := of_neg hm57 rfl
        have hm57 := Option.some.inj hm57
        subst hm57
        exact TS.rg (TI.o { val := .bool true } (q_conv (e := r44 == 0) (b := true) (by kernel_rfl) hc48) [5, 6, 8, 48] [0, 1, 2, 3, 4, 5] (S7_19 r42 r44) (H7_9 p2 p13 p14 r1 r42) (TI.ra 2 [5, 8, 48, 49, 50] (S7_17 r44 r1 r42) (TI.cp 34 [ag [iv r1.1, iv r1.2.1, accV 4 r1.2.2.length], accV 5 r42.length] (.bool false) [] (PureSim.ren (hc := (H7_18 r1 r42)) (fun i => List.getD [(4, 0), (5, 0)] i (0, 0)) (C34 _ _ _ _ _ h47) (.ac (.ac (.nil _))) (.cons (Rn.agg' (.fl (.fl (.cons (Rn.accA (i' := 4) (Nat.le_of_ble_eq_true rfl) rfl) .nil)))) (.cons (Rn.accA (i' := 5) (Nat.le_of_ble_eq_true rfl) rfl) .nil)) (.flat (by kernel_rfl)) newflat_nil) (TI.rn 14 [4] [0, 1, 2] (st 65 [(4, .bool false)]) (H7_16 p2 p13 p14) (TI.dn hK)))))
    · replace hm57 := of_neg hm57 hc48
      cases r46 with
      | true =>
        replace hm57 := of_pos hm57 rfl
        have hm57 := Option.some.inj hm57
        subst hm57
        exact TS.rg (TI.o { val := .bool false } (q_conv (e := r44 == 0) (b := false) (by kernel_rfl) hc48) [5, 6, 8, 48] [0, 1, 2, 3, 4, 5] (st 65 [(5, pt 3 0), (6, accV 5 r42.length), (8, .bool (r44 == 0)), (48, .bool false)]) (H7_9 p2 p13 p14 r1 r42) (TI.ra 2 [5, 8, 48, 49, 50] (st 65 [(5, pt 3 0), (8, .bool (r44 == 0)), (48, .bool false), (49, ag [iv r1.1, iv r1.2.1, accV 4 r1.2.2.length]), (50, accV 5 r42.length)]) (TI.cp 34 [ag [iv r1.1, iv r1.2.1, accV 4 r1.2.2.length], accV 5 r42.length] (.bool true) [] (PureSim.ren (hc := (H7_18 r1 r42)) (fun i => List.getD [(4, 0), (5, 0)] i (0, 0)) (C34 _ _ _ _ _ h47) (.ac (.ac (.nil _))) (.cons (Rn.agg' (.fl (.fl (.cons (Rn.accA (i' := 4) (Nat.le_of_ble_eq_true rfl) rfl) .nil)))) (.cons (Rn.accA (i' := 5) (Nat.le_of_ble_eq_true rfl) rfl) .nil)) (.flat (by kernel_rfl)) newflat_nil) (TI.rn 14 [4] [0, 1, 2] (st 65 [(4, .bool false)]) (H7_16 p2 p13 p14) (TI.dn hK)))))
      | false =>
        replace hm57 := of_neg hm57 rfl
        have hX := of_do hm57
        clear hm57
        obtain ⟨r54, h55, hm57⟩ := hX
        have hm57 := Option.some.inj hm57
        subst hm57
        refine TS.rg (TI.o { val := .bool false } (q_conv (e := r44 == 0) (b := false) (by kernel_rfl) hc48) [5, 6, 8, 48] [0, 1, 2, 3, 4, 5] (st 65 [(5, pt 3 0), (6, accV 5 r42.length), (8, .bool (r44 == 0)), (48, .bool false)]) (H7_9 p2 p13 p14 r1 r42) (TI.ra 2 [5, 8, 48, 49, 50] (st 65 [(5, pt 3 0), (8, .bool (r44 == 0)), (48, .bool false), (49, ag [iv r1.1, iv r1.2.1, accV 4 r1.2.2.length]), (50, accV 5 r42.length)]) (TI.cp 34 [ag [iv r1.1, iv r1.2.1, accV 4 r1.2.2.length], accV 5 r42.length] (.bool false) [] (PureSim.ren (hc := (H7_18 r1 r42)) (fun i => List.getD [(4, 0), (5, 0)] i (0, 0)) (C34 _ _ _ _ _ h47) (.ac (.ac (.nil _))) (.cons (Rn.agg' (.fl (.fl (.cons (Rn.accA (i' := 4) (Nat.le_of_ble_eq_true rfl) rfl) .nil)))) (.cons (Rn.accA (i' := 5) (Nat.le_of_ble_eq_true rfl) rfl) .nil)) (.flat (by kernel_rfl)) newflat_nil) (TI.rn 2 [5, 8, 53] [0, 1, 2, 3, 4] (S7_20 r44) (H7_11 p2 p13 p14 r1) (TI.o { val := .bool false } (q_conv (e := r44 == 0) (b := false) (by kernel_rfl) hc48) [5, 53, 54] [0, 1, 2, 3, 4] (st 65 [(5, pt 3 0), (53, .bool true), (54, .bool false)]) (H7_11 p2 p13 p14 r1) (TI.rn 8 [62] [0, 1, 2] (st 65 [(62, .bool true)]) (H7_16 p2 p13 p14) (TI.cf (C14 _ h55) (TI.ra 2 [4] (st 65 [(4, .bool r54)]) ?_))))))))
        exact TI.dn hK
theorem C7 (p0 : Int) (p1 : Int) (p2 : (List Int)) (p3 : Int) (p4 : Int) (p5 : Int) (p6 : Int) (p7 : Int) (p8 : Int) (p9 : Int) (p10 : Int) (p11 : Int) (p12 : Int) (p13 : (List Int)) (p14 : (List Int)) (r : Bool) (hF : F7 p0 p1 p2 p3 p4 p5 p6 p7 p8 p9 p10 p11 p12 p13 p14 = some r) : PureSim Try.prog 7 [ag [.int .u8 p0, .int .u8 p1, sv 0 p2.length ANY, .int .u8 p3, .int .u8 p4, .int .u8 p5, .int .u8 p6, .int .u8 p7, .int .u8 p8, .int .u8 p9, .int .u8 p10, .int .u8 p11, .int .u8 p12, sv 1 p13.length ANY], sv 2 p14.length ANY] [ab 5 e5 p2, ab 5 e5 p13, ab 5 e5 p14] (V7 3 r) (N7 3 r) :=
  PureSim.of_Fin Try.func7 (c := c7) (by kernel_rfl) (by kernel_rfl) 3 rfl [0, 1] [0, 1, 2] (by kernel_rfl) (B7 p0 p1 p2 p3 p4 p5 p6 p7 p8 p9 p10 p11 p12 p13 p14 r hF)
end
end Go.Proofs.Ytdekbjfjbbdjgaa
