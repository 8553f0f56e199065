/- What functions of the program compute, and that they do. -/
import Derived.Test.YtdekbjfjbbdjgaaGS
set_option linter.unusedVariables false
set_option linter.unusedSimpArgs false
set_option maxRecDepth 100000
set_option maxHeartbeats 4000000
namespace Go.Proofs.Ytdekbjfjbbdjgaa
open Go Go.Cl
noncomputable section
noncomputable def c34 : Code := Try.f34.code
def S34_0 (p3 : List Int) (v27 v28 o56 o60 : Int) (p2 : List I2) (o67 o70 : I2) : CAct := (st 104 [(1, sv 1 p3.length ANY), (2, pt 2 0), (5, iv v27), (6, iv v28), (7, iv o56), (8, iv o60), (9, pt 3 0), (10, pt 4 0), (20, sv 1 p3.length ANY), (21, iv (p3.length : Int)), (22, iv v28), (57, .bool false), (58, pt 2 2), (59, sv 0 p2.length ANY), (60, iv o56), (61, .pointer (some ⟨0, 0 + (Int.toNat o56) * 2, none⟩)), (62, ag [iv o67.1, iv o67.2]), (63, pt 2 2), (64, sv 0 p2.length ANY), (65, iv o60), (66, .pointer (some ⟨0, 0 + (Int.toNat o60) * 2, none⟩)), (67, ag [iv o70.1, iv o70.2])])
def S34_1 (p3 : List Int) (v27 v28 o56 o60 : Int) (p2 : List I2) (o67 o70 : I2) : CAct := (st 104 [(1, sv 1 p3.length ANY), (2, pt 2 0), (5, iv v27), (6, iv v28), (7, iv o56), (8, iv o60), (20, sv 1 p3.length ANY), (21, iv (p3.length : Int)), (22, iv v28), (57, .bool false), (58, pt 2 2), (59, sv 0 p2.length ANY), (60, iv o56), (61, .pointer (some ⟨0, 0 + (Int.toNat o56) * 2, none⟩)), (62, ag [iv o67.1, iv o67.2]), (63, pt 2 2), (64, sv 0 p2.length ANY), (65, iv o60), (66, .pointer (some ⟨0, 0 + (Int.toNat o60) * 2, none⟩)), (67, ag [iv o70.1, iv o70.2])])
def S34_2 (p3 : List Int) (v27 v28 o56 o60 : Int) (p2 : List I2) (o67 : I2) : CAct := (st 104 [(1, sv 1 p3.length ANY), (2, pt 2 0), (5, iv v27), (6, iv v28), (7, iv o56), (8, iv o60), (20, sv 1 p3.length ANY), (21, iv (p3.length : Int)), (22, iv v28), (57, .bool false), (58, pt 2 2), (59, sv 0 p2.length ANY), (60, iv o56), (61, .pointer (some ⟨0, 0 + (Int.toNat o56) * 2, none⟩)), (62, ag [iv o67.1, iv o67.2]), (63, pt 2 2), (64, sv 0 p2.length ANY), (65, iv o60), (66, .pointer (some ⟨0, 0 + (Int.toNat o60) * 2, none⟩))])
def S34_3 (p3 : List Int) (v27 v28 o56 o60 : Int) (p2 : List I2) (o67 : I2) : CAct := (st 104 [(1, sv 1 p3.length ANY), (2, pt 2 0), (5, iv v27), (6, iv v28), (7, iv o56), (8, iv o60), (20, sv 1 p3.length ANY), (21, iv (p3.length : Int)), (22, iv v28), (57, .bool false), (58, pt 2 2), (59, sv 0 p2.length ANY), (60, iv o56), (61, .pointer (some ⟨0, 0 + (Int.toNat o56) * 2, none⟩)), (62, ag [iv o67.1, iv o67.2]), (63, pt 2 2), (64, sv 0 p2.length ANY), (65, iv o60)])
def S34_4 (p3 : List Int) (v27 v28 o56 o60 : Int) (p2 : List I2) (o67 : I2) : CAct := (st 104 [(1, sv 1 p3.length ANY), (2, pt 2 0), (5, iv v27), (6, iv v28), (7, iv o56), (8, iv o60), (20, sv 1 p3.length ANY), (21, iv (p3.length : Int)), (22, iv v28), (57, .bool false), (58, pt 2 2), (59, sv 0 p2.length ANY), (60, iv o56), (61, .pointer (some ⟨0, 0 + (Int.toNat o56) * 2, none⟩)), (62, ag [iv o67.1, iv o67.2])])
def S34_5 (p3 : List Int) (v27 v28 o56 o60 : Int) (p2 : List I2) : CAct := (st 104 [(1, sv 1 p3.length ANY), (2, pt 2 0), (5, iv v27), (6, iv v28), (7, iv o56), (8, iv o60), (20, sv 1 p3.length ANY), (21, iv (p3.length : Int)), (22, iv v28), (57, .bool false), (58, pt 2 2), (59, sv 0 p2.length ANY), (60, iv o56), (61, .pointer (some ⟨0, 0 + (Int.toNat o56) * 2, none⟩))])
def S34_6 (p3 : List Int) (v27 v28 o56 o60 : Int) (p2 : List I2) : CAct := (st 104 [(1, sv 1 p3.length ANY), (2, pt 2 0), (5, iv v27), (6, iv v28), (7, iv o56), (8, iv o60), (20, sv 1 p3.length ANY), (21, iv (p3.length : Int)), (22, iv v28), (57, .bool false), (58, pt 2 2), (59, sv 0 p2.length ANY), (60, iv o56)])
def S34_7 (p3 : List Int) (v27 v28 o56 o60 : Int) (p2 : List I2) : CAct := (st 104 [(1, sv 1 p3.length ANY), (2, pt 2 0), (5, iv v27), (6, iv v28), (7, iv o56), (8, iv o60), (20, sv 1 p3.length ANY), (21, iv (p3.length : Int)), (22, iv v28), (40, .bool false), (41, iv o56), (44, iv (p2.length : Int))])
def S34_8 (p3 : List Int) (v27 v28 o56 o60 : Int) : CAct := (st 104 [(1, sv 1 p3.length ANY), (2, pt 2 0), (5, iv v27), (6, iv v28), (7, iv o56), (8, iv o60), (20, sv 1 p3.length ANY), (21, iv (p3.length : Int)), (22, iv v28), (40, .bool false), (45, .bool false)])
def S34_9 (p3 : List Int) (v27 v28 o56 o60 : Int) : CAct := (st 104 [(1, sv 1 p3.length ANY), (2, pt 2 0), (5, iv v27), (6, iv v28), (7, iv o56), (8, iv o60), (20, sv 1 p3.length ANY), (21, iv (p3.length : Int)), (22, iv v28), (47, .bool false), (48, iv o60)])
def S34_10 (p3 : List Int) (v27 v28 o56 o60 : Int) : CAct := (st 104 [(1, sv 1 p3.length ANY), (2, pt 2 0), (5, iv v27), (6, iv v28), (7, iv o56), (8, iv o60), (20, sv 1 p3.length ANY), (21, iv (p3.length : Int)), (22, iv v28), (39, .bool false)])
def S34_11 (p3 : List Int) (v27 v28 o56 o60 : Int) : CAct := (st 104 [(1, sv 1 p3.length ANY), (2, pt 2 0), (5, iv v27), (6, iv v28), (7, iv o56), (8, iv o60), (20, sv 1 p3.length ANY), (21, iv (p3.length : Int)), (22, iv v28), (57, .bool true)])
def S34_12 (p3 : List Int) (v27 v28 o56 o60 : Int) : CAct := (st 104 [(1, sv 1 p3.length ANY), (2, pt 2 0), (5, iv v27), (6, iv v28), (7, iv o56), (8, iv o60), (20, sv 1 p3.length ANY), (21, iv (p3.length : Int)), (22, iv v28), (38, iv o56)])
def H34_13 (p2 : List I2) (p3 : List Int) (p0 p1 : Int) (o67 o70 : I2) : List Blk := [ab 57 e57 p2, ab 3 e3 p3, cl 24 [iv p0, iv p1, sv 0 p2.length ANY], cl 57 [iv o67.1, iv o67.2], cl 57 [iv o70.1, iv o70.2]]
def S34_14 (p3 : List Int) (v27 : Int) (o67 : I2) (v28 : Int) : CAct := (st 104 [(1, sv 1 p3.length ANY), (2, pt 2 0), (5, iv (w64 (v27 + o67.2))), (20, sv 1 p3.length ANY), (21, iv (p3.length : Int)), (22, iv (w64 (v28 + 1)))])
def S34_15 (p3 : List Int) (v27 : Int) (o67 : I2) (v28 : Int) : CAct := (st 104 [(1, sv 1 p3.length ANY), (2, pt 2 0), (5, iv (w64 (v27 - o67.2))), (20, sv 1 p3.length ANY), (21, iv (p3.length : Int)), (22, iv (w64 (v28 + 1)))])
def H34_16 (p2 : List I2) (p3 : List Int) (p0 p1 : Int) (o67 : I2) : List Blk := [ab 57 e57 p2, ab 3 e3 p3, cl 24 [iv p0, iv p1, sv 0 p2.length ANY], cl 57 [iv o67.1, iv o67.2], cl 57 [iv 0, iv 0]]
def S34_17 (p3 : List Int) (v27 v28 : Int) : CAct := (st 104 [(1, sv 1 p3.length ANY), (2, pt 2 0), (5, iv v27), (20, sv 1 p3.length ANY), (21, iv (p3.length : Int)), (22, iv v28)])
def S34_18 (p3 : List Int) : CAct := (st 104 [(1, sv 1 p3.length ANY), (2, pt 2 0), (5, iv 0), (20, sv 1 p3.length ANY), (21, iv (p3.length : Int)), (22, iv 0)])
def H34_19 (p2 : List I2) (p3 : List Int) (p0 p1 : Int) : List Blk := [ab 57 e57 p2, ab 3 e3 p3, cl 24 [iv p0, iv p1, sv 0 p2.length ANY], .dead, .dead]
def H34_20 (p2 : List I2) (p3 : List Int) (p0 p1 : Int) : List Blk := [ab 57 e57 p2, ab 3 e3 p3, cl 24 [iv p0, iv p1, sv 0 p2.length ANY]]
def S34_21 (p3 : List Int) : CAct := (st 104 [(1, sv 1 p3.length ANY), (2, pt 2 0), (12, iv (p3.length : Int))])
def H34_22 (p2 : List I2) (p3 : List Int) : List Blk := [ab 57 e57 p2, ab 3 e3 p3]
def F34l0 (p0 p1 : Int) (p2 : List I2) (p3 : List Int) (v27 v28 : Int) : Option (Unit ⊕ Int) :=
 if decide (v28 < (p3.length : Int)) then
  if (0 : Int) ≤ v28 ∧ v28 < (p3.length : Int) then
   some (List.getD p3 (Int.toNat v28) 0) >>= fun o56 =>
   if (p3.length : Int) = 0 then none else
   if (0 : Int) ≤ Int.tmod (w64 ((w64 (v28 + (p3.length : Int))) - 1)) (p3.length : Int) ∧ Int.tmod (w64 ((w64 (v28 + (p3.length : Int))) - 1)) (p3.length : Int) < (p3.length : Int) then
    some (List.getD p3 (Int.toNat (Int.tmod (w64 ((w64 (v28 + (p3.length : Int))) - 1)) (p3.length : Int))) 0) >>= fun o60 =>
    (
     if decide (o56 < 0) then
      some (true)
     else
      if decide (o56 ≥ (p2.length : Int)) then
       some (true)
      else
       if decide (o60 < 0) then
        some (true)
       else
        some (decide (o60 ≥ (p2.length : Int)))
    : Option Bool) >>= fun m65 =>
    if m65 then
     some (.inl ())
    else
     if (0 : Int) ≤ o56 ∧ o56 < (p2.length : Int) then
      some (List.getD p2 (Int.toNat o56) (0, 0)) >>= fun o67 =>
      if (0 : Int) ≤ o60 ∧ o60 < (p2.length : Int) then
       some (List.getD p2 (Int.toNat o60) (0, 0)) >>= fun o70 =>
       if (Int.tmod v28 2) == 0 then
        if p1 = 0 then none else
        if (Int.tmod o67.1 p1) != (Int.tmod o70.1 p1) then
         some (.inl ())
        else
         F34l0 p0 p1 p2 p3 (w64 (v27 + o67.2)) (w64 (v28 + 1))
       else
        if p0 = 0 then none else
        if (Int.tmod o67.1 p0) != (Int.tmod o70.1 p0) then
         some (.inl ())
        else
         F34l0 p0 p1 p2 p3 (w64 (v27 - o67.2)) (w64 (v28 + 1))
      else none
     else none
   else none
  else none
 else
  some (.inr v27)
 partial_fixpoint
def F34 (p0 p1 : Int) (p2 : List I2) (p3 : List Int) : Option Bool :=
 (
  if decide ((p3.length : Int) < 2) then
   some (true)
  else
   some ((Int.tmod (p3.length : Int) 2) == 1)
 : Option Bool) >>= fun m2 =>
 if m2 then
  some false
 else
  F34l0 p0 p1 p2 p3 0 0 >>= fun r78 =>
  match r78 with
  | .inl o80 =>
   some false
  | .inr o81 =>
   some (o81 != 0)
def V34 (b : Nat) (r : Bool) : Value := .bool r
def N34 (b : Nat) (r : Bool) : List Blk := []
def P34l0 (p0 p1 : Int) (p2 : List I2) (p3 : List Int) (r : Unit ⊕ Int) : Post := fun e a h => (match r with | .inl q0 => e = .ret ∧ Wk Try.prog 2 2 a h (st 104 [(4, .bool false)]) (H34_22 p2 p3) | .inr q0 => e = .exit 0 ∧ Wk Try.prog 2 2 a h (st 104 [(5, iv q0)]) (H34_22 p2 p3))
theorem L34l0 (p0 p1 : Int) (p2 : List I2) (p3 : List Int) (v27 v28 : Int) (r : Unit ⊕ Int) (hF : F34l0 p0 p1 p2 p3 v27 v28 = some r) : TL Try.prog 2 2 c34.s2.s2.s2.s1.s2.bd.bd (S34_17 p3 v27 v28) (H34_20 p2 p3 p0 p1) (P34l0 p0 p1 p2 p3 r) := by
 refine F34l0.partial_correctness p0 p1 p2 p3 (motive := fun v27 v28 r => TL Try.prog 2 2 c34.s2.s2.s2.s1.s2.bd.bd (S34_17 p3 v27 v28) (H34_20 p2 p3 p0 p1) (P34l0 p0 p1 p2 p3 r)) ?_ v27 v28 r hF
 clear hF r v27 v28
 intro again ih v27 v28 r hF
 refine TL.round (TS.sq (TS.rg (TI.ra 1 [1, 2, 5, 20, 21, 22, 23] (st 104 [(1, sv 1 p3.length ANY), (2, pt 2 0), (5, iv v27), (20, sv 1 p3.length ANY), (21, iv (p3.length : Int)), (22, iv v28), (23, .bool (decide (v28 < (p3.length : Int))))]) (TI.dn (NX.sq (TS.sq ?_))))))
 refine TS.cd (.tmp 23) (decide (v28 < (p3.length : Int))) (fun hc54 => ?_) (fun hc54 => ?_)
 · replace hF := of_pos hF hc54
   refine TS.sk (NX.sq (TS.sq (TS.bk 1 (TS.sq ?_))))
   obtain ⟨hg55, hF⟩ := of_guard hF
   obtain ⟨o56, h57, hF⟩ := of_do hF
   replace h57 := sj h57
   refine TS.rg (TI.ra 1 [1, 2, 5, 20, 21, 22, 24] (st 104 [(1, sv 1 p3.length ANY), (2, pt 2 0), (5, iv v27), (20, sv 1 p3.length ANY), (21, iv (p3.length : Int)), (22, iv v28), (24, iv v28)]) (TI.o { val := .pointer (some ⟨1, 0 + (Int.toNat v28) * 1, none⟩) } (q_ixS 1 0 ((Int.toNat v28) * 1) (by kernel_rfl) hg55) [1, 2, 5, 20, 21, 22, 24, 25] [0, 1, 2] (st 104 [(1, sv 1 p3.length ANY), (2, pt 2 0), (5, iv v27), (20, sv 1 p3.length ANY), (21, iv (p3.length : Int)), (22, iv v28), (24, iv v28), (25, .pointer (some ⟨1, 0 + (Int.toNat v28) * 1, none⟩))]) (H34_20 p2 p3 p0 p1) (TI.o { val := iv o56 } (q_n1a Try.prog (H34_20 p2 p3 p0 p1) 3 1 (0 + (Int.toNat v28) * 1) p3 e3 1 3 (Int.toNat v28) 0 0 h57) [1, 2, 5, 20, 21, 22, 24, 26] [0, 1, 2] (st 104 [(1, sv 1 p3.length ANY), (2, pt 2 0), (5, iv v27), (20, sv 1 p3.length ANY), (21, iv (p3.length : Int)), (22, iv v28), (24, iv v28), (26, iv o56)]) (H34_20 p2 p3 p0 p1) (TI.ra 2 [1, 2, 5, 6, 7, 20, 21, 22] (st 104 [(1, sv 1 p3.length ANY), (2, pt 2 0), (5, iv v27), (6, iv v28), (7, iv o56), (20, sv 1 p3.length ANY), (21, iv (p3.length : Int)), (22, iv v28)]) (TI.dn (NX.sq (TS.sq ?_)))))))
   obtain ⟨hg58, hF⟩ := of_guardn hF
   obtain ⟨hg59, hF⟩ := of_guard hF
   obtain ⟨o60, h61, hF⟩ := of_do hF
   replace h61 := sj h61
   refine TS.rg (TI.ra 8 [1, 2, 5, 6, 7, 20, 21, 22, 27, 32, 34] (st 104 [(1, sv 1 p3.length ANY), (2, pt 2 0), (5, iv v27), (6, iv v28), (7, iv o56), (20, sv 1 p3.length ANY), (21, iv (p3.length : Int)), (22, iv v28), (27, sv 1 p3.length ANY), (32, iv (w64 ((w64 (v28 + (p3.length : Int))) - 1))), (34, iv (p3.length : Int))]) (TI.o { val := iv (Int.tmod (w64 ((w64 (v28 + (p3.length : Int))) - 1)) (p3.length : Int)) } (q_int (P := Try.prog) (op := .rem) (ty := 3) (ox := (.tmp 32)) (oy := (.tmp 34)) (k := .i64) (k' := .i64) (y := w64 ((w64 (v28 + (p3.length : Int))) - 1)) (z := (p3.length : Int)) (by kernel_rfl) (rem_ok hg58)) [1, 2, 5, 6, 7, 20, 21, 22, 27, 35] [0, 1, 2] (st 104 [(1, sv 1 p3.length ANY), (2, pt 2 0), (5, iv v27), (6, iv v28), (7, iv o56), (20, sv 1 p3.length ANY), (21, iv (p3.length : Int)), (22, iv v28), (27, sv 1 p3.length ANY), (35, iv (Int.tmod (w64 ((w64 (v28 + (p3.length : Int))) - 1)) (p3.length : Int)))]) (H34_20 p2 p3 p0 p1) (TI.o { val := .pointer (some ⟨1, 0 + (Int.toNat (Int.tmod (w64 ((w64 (v28 + (p3.length : Int))) - 1)) (p3.length : Int))) * 1, none⟩) } (q_ixS 1 0 ((Int.toNat (Int.tmod (w64 ((w64 (v28 + (p3.length : Int))) - 1)) (p3.length : Int))) * 1) (by kernel_rfl) hg59) [1, 2, 5, 6, 7, 20, 21, 22, 36] [0, 1, 2] (st 104 [(1, sv 1 p3.length ANY), (2, pt 2 0), (5, iv v27), (6, iv v28), (7, iv o56), (20, sv 1 p3.length ANY), (21, iv (p3.length : Int)), (22, iv v28), (36, .pointer (some ⟨1, 0 + (Int.toNat (Int.tmod (w64 ((w64 (v28 + (p3.length : Int))) - 1)) (p3.length : Int))) * 1, none⟩))]) (H34_20 p2 p3 p0 p1) (TI.o { val := iv o60 } (q_n1a Try.prog (H34_20 p2 p3 p0 p1) 3 1 (0 + (Int.toNat (Int.tmod (w64 ((w64 (v28 + (p3.length : Int))) - 1)) (p3.length : Int))) * 1) p3 e3 1 3 (Int.toNat (Int.tmod (w64 ((w64 (v28 + (p3.length : Int))) - 1)) (p3.length : Int))) 0 0 h61) [1, 2, 5, 6, 7, 20, 21, 22, 37] [0, 1, 2] (st 104 [(1, sv 1 p3.length ANY), (2, pt 2 0), (5, iv v27), (6, iv v28), (7, iv o56), (20, sv 1 p3.length ANY), (21, iv (p3.length : Int)), (22, iv v28), (37, iv o60)]) (H34_20 p2 p3 p0 p1) (TI.ra 1 [1, 2, 5, 6, 7, 8, 20, 21, 22] (st 104 [(1, sv 1 p3.length ANY), (2, pt 2 0), (5, iv v27), (6, iv v28), (7, iv o56), (8, iv o60), (20, sv 1 p3.length ANY), (21, iv (p3.length : Int)), (22, iv v28)]) (TI.dn (NX.sq (TS.sq ?_))))))))
   refine TS.sq ?_
   obtain ⟨m65, hm77, hF⟩ := of_do hF
   have hK : NX Try.prog 2 2 [.sq c34.s2.s2.s2.s1.s2.bd.bd.s2.s2.s1.bd.s2.s2.s1.s2, .sq c34.s2.s2.s2.s1.s2.bd.bd.s2.s2.s1.bd.s2.s2.s2, .bk 1, .sq c34.s2.s2.s2.s1.s2.bd.bd.s2.s2.s2] (Rd Try.prog 2 2 c34.s2.s2.s2.s1.s2.bd.bd (P34l0 p0 p1 p2 p3 r)) .normal (st 104 [(1, sv 1 p3.length ANY), (2, pt 2 0), (5, iv v27), (6, iv v28), (7, iv o56), (8, iv o60), (20, sv 1 p3.length ANY), (21, iv (p3.length : Int)), (22, iv v28), (57, .bool m65)]) (H34_20 p2 p3 p0 p1) := by
    refine NX.sq ?_
    cases m65 with
    | true =>
     replace hF := of_pos hF rfl
     refine TS.cdT (.tmp 57) (TS.sq (TS.rg (TI.rn 1 [4] [0, 1] (st 104 [(4, .bool false)]) [ab 57 e57 p2, ab 3 e3 p3, .dead] (TI.dn (NX.sq (TS.rt (NX.sqR (NX.bkR ?_))))))))
     refine NX.sqR ?_
     have hF := sj hF
     subst hF
     exact Rd.out (e := .ret) (by intro h; cases h) (And.intro rfl (Wk.an [] (.ac (.ac (.nil _))) [.bool false] (.fl .nil)))
    | false =>
     replace hF := of_neg hF rfl
     refine TS.cdF (.tmp 57) (TS.sk (NX.sq (TS.sq ?_)))
     obtain ⟨hg66, hF⟩ := of_guard hF
     obtain ⟨o67, h68, hF⟩ := of_do hF
     replace h68 := sj h68
     obtain ⟨hg69, hF⟩ := of_guard hF
     obtain ⟨o70, h71, hF⟩ := of_do hF
     replace h71 := sj h71
     refine TS.draw' (id := 10) (b := true) (ops := c34.s2.s2.s2.s1.s2.bd.bd.s2.s2.s1.bd.s2.s2.s2.s1.rops) (fin := (qs (S34_0 p3 v27 v28 o56 o60 p2 o67 o70) (H34_16 p2 p3 p0 p1 o67) [(11, 4, 5), (10, 3, 4)] [(12, 3)])) (fin2 := (qs (S34_0 p3 v27 v28 o56 o60 p2 o67 o70) (H34_16 p2 p3 p0 p1 o67) [(11, 4, 5), (10, 3, 4)] [(12, 3)])) (a1 := (S34_0 p3 v27 v28 o56 o60 p2 o67 o70)) (h1 := (H34_13 p2 p3 p0 p1 o67 o70)) (a2 := (st 104 [(1, sv 1 p3.length ANY), (2, pt 2 0), (5, iv v27), (6, iv v28), (9, pt 3 0), (10, pt 4 0), (20, sv 1 p3.length ANY), (21, iv (p3.length : Int)), (22, iv v28)])) (h2 := (H34_13 p2 p3 p0 p1 o67 o70)) [] (fun e he => by cases he) mixed (by kernel_rfl) rfl 13 (by kernel_rfl) [(12, 3)] ?_ rfl (.inr ⟨?_, (by kernel_rfl)⟩) ?_ [1, 2, 5, 6, 9, 10, 20, 21, 22] [0, 1, 2, 3, 4] (by kernel_rfl) ?_
     · exact QI.run (s1 := (qs (S34_6 p3 v27 v28 o56 o60 p2) (H34_20 p2 p3 p0 p1) [] [])) 3 (by kernel_rfl) (by kernel_rfl) (QI.op (q := { val := .pointer (some ⟨0, 0 + (Int.toNat o56) * 2, none⟩) }) (s1 := (qs (S34_5 p3 v27 v28 o56 o60 p2) (H34_20 p2 p3 p0 p1) [] [])) (by decide) (q_ixS 0 0 ((Int.toNat o56) * 2) (by kernel_rfl) hg66) (by kernel_rfl) (QI.op (q := { val := ag [iv o67.1, iv o67.2] }) (s1 := (qs (S34_4 p3 v27 v28 o56 o60 p2 o67) (H34_20 p2 p3 p0 p1) [] [])) (by decide) (q_nAa Try.prog (H34_20 p2 p3 p0 p1) 57 0 (0 + (Int.toNat o56) * 2) p2 e57 2 57 (Int.toNat o56) (0, 0) h68) (by kernel_rfl) (QI.run (s1 := (qs (S34_3 p3 v27 v28 o56 o60 p2 o67) (H34_20 p2 p3 p0 p1) [] [])) 3 (by kernel_rfl) (by kernel_rfl) (QI.op (q := { val := .pointer (some ⟨0, 0 + (Int.toNat o60) * 2, none⟩) }) (s1 := (qs (S34_2 p3 v27 v28 o56 o60 p2 o67) (H34_20 p2 p3 p0 p1) [] [])) (by decide) (q_ixS 0 0 ((Int.toNat o60) * 2) (by kernel_rfl) hg69) (by kernel_rfl) (QI.op (q := { val := ag [iv o70.1, iv o70.2] }) (s1 := (qs (S34_1 p3 v27 v28 o56 o60 p2 o67 o70) (H34_20 p2 p3 p0 p1) [] [])) (by decide) (q_nAa Try.prog (H34_20 p2 p3 p0 p1) 57 0 (0 + (Int.toNat o60) * 2) p2 e57 2 57 (Int.toNat o60) (0, 0) h71) (by kernel_rfl) (QI.run (s1 := (qs (S34_0 p3 v27 v28 o56 o60 p2 o67 o70) (H34_16 p2 p3 p0 p1 o67) [(11, 4, 5), (10, 3, 4)] [(12, 3)])) 3 (by kernel_rfl) (by kernel_rfl) (QI.done (by kernel_rfl))))))))
     · exact QI.run (s1 := (qs (S34_6 p3 v27 v28 o56 o60 p2) (H34_20 p2 p3 p0 p1) [] [])) 3 (by kernel_rfl) (by kernel_rfl) (QI.op (q := { val := .pointer (some ⟨0, 0 + (Int.toNat o56) * 2, none⟩) }) (s1 := (qs (S34_5 p3 v27 v28 o56 o60 p2) (H34_20 p2 p3 p0 p1) [] [])) (by decide) (q_ixS 0 0 ((Int.toNat o56) * 2) (by kernel_rfl) hg66) (by kernel_rfl) (QI.op (q := { val := ag [iv o67.1, iv o67.2] }) (s1 := (qs (S34_4 p3 v27 v28 o56 o60 p2 o67) (H34_20 p2 p3 p0 p1) [] [])) (by decide) (q_nAa Try.prog (H34_20 p2 p3 p0 p1) 57 0 (0 + (Int.toNat o56) * 2) p2 e57 2 57 (Int.toNat o56) (0, 0) h68) (by kernel_rfl) (QI.run (s1 := (qs (S34_3 p3 v27 v28 o56 o60 p2 o67) (H34_20 p2 p3 p0 p1) [] [])) 3 (by kernel_rfl) (by kernel_rfl) (QI.op (q := { val := .pointer (some ⟨0, 0 + (Int.toNat o60) * 2, none⟩) }) (s1 := (qs (S34_2 p3 v27 v28 o56 o60 p2 o67) (H34_20 p2 p3 p0 p1) [] [])) (by decide) (q_ixS 0 0 ((Int.toNat o60) * 2) (by kernel_rfl) hg69) (by kernel_rfl) (QI.op (q := { val := ag [iv o70.1, iv o70.2] }) (s1 := (qs (S34_1 p3 v27 v28 o56 o60 p2 o67 o70) (H34_20 p2 p3 p0 p1) [] [])) (by decide) (q_nAa Try.prog (H34_20 p2 p3 p0 p1) 57 0 (0 + (Int.toNat o60) * 2) p2 e57 2 57 (Int.toNat o60) (0, 0) h71) (by kernel_rfl) (QI.run (s1 := (qs (S34_0 p3 v27 v28 o56 o60 p2 o67 o70) (H34_16 p2 p3 p0 p1 o67) [(11, 4, 5), (10, 3, 4)] [(12, 3)])) 3 (by kernel_rfl) (by kernel_rfl) (QI.done (by kernel_rfl))))))))
     · exact SI.run (a2 := (S34_0 p3 v27 v28 o56 o60 p2 o67 o70)) (h2 := (H34_13 p2 p3 p0 p1 o67 o70)) 1 (by kernel_rfl) (SI.done (by kernel_rfl))
     refine TS.sq (TS.rg (TI.ra 3 [1, 2, 5, 9, 10, 20, 21, 22, 70] (st 104 [(1, sv 1 p3.length ANY), (2, pt 2 0), (5, iv v27), (9, pt 3 0), (10, pt 4 0), (20, sv 1 p3.length ANY), (21, iv (p3.length : Int)), (22, iv v28), (70, .bool ((Int.tmod v28 2) == 0))]) (TI.dn (NX.sq ?_))))
     refine TS.cd (.tmp 70) ((Int.tmod v28 2) == 0) (fun hc72 => ?_) (fun hc72 => ?_)
     · replace hF := of_pos hF hc72
       refine TS.sq (TS.rg (TI.ra 5 [1, 2, 5, 9, 10, 20, 21, 22] (st 104 [(1, sv 1 p3.length ANY), (2, pt 2 0), (5, iv (w64 (v27 + o67.2))), (9, pt 3 0), (10, pt 4 0), (20, sv 1 p3.length ANY), (21, iv (p3.length : Int)), (22, iv v28)]) (TI.dn (NX.sq (TS.sq ?_)))))
       obtain ⟨hg73, hF⟩ := of_guardn hF
       refine TS.dp [] (fun e he => by cases he) mixed 10 [1, 2, 5, 20, 21, 22, 85] [0, 1, 2] (st 104 [(1, sv 1 p3.length ANY), (2, pt 2 0), (5, iv (w64 (v27 + o67.2))), (20, sv 1 p3.length ANY), (21, iv (p3.length : Int)), (22, iv v28), (85, .bool ((Int.tmod o67.1 p1) != (Int.tmod o70.1 p1)))]) (H34_19 p2 p3 p0 p1) ?_ ?_
       · exact QJ.rn (qs (st 104 [(1, sv 1 p3.length ANY), (2, pt 2 0), (5, iv (w64 (v27 + o67.2))), (9, pt 3 0), (10, pt 4 0), (20, sv 1 p3.length ANY), (21, iv (p3.length : Int)), (22, iv v28), (75, pt 3 0), (76, iv o67.1), (77, pt 2 1), (78, iv p1)]) (H34_13 p2 p3 p0 p1 o67 o70) [] []) 4 (QJ.o { val := iv (Int.tmod o67.1 p1) } (q_int (P := Try.prog) (op := .rem) (ty := 3) (ox := (.tmp 76)) (oy := (.tmp 78)) (k := .i64) (k' := .i64) (y := o67.1) (z := p1) (by kernel_rfl) (rem_ok hg73)) (QJ.rn (qs (st 104 [(1, sv 1 p3.length ANY), (2, pt 2 0), (5, iv (w64 (v27 + o67.2))), (9, pt 3 0), (10, pt 4 0), (20, sv 1 p3.length ANY), (21, iv (p3.length : Int)), (22, iv v28), (75, pt 3 0), (76, iv o67.1), (77, pt 2 1), (78, iv p1), (79, iv (Int.tmod o67.1 p1)), (80, pt 4 0), (81, iv o70.1), (82, pt 2 1), (83, iv p1)]) (H34_13 p2 p3 p0 p1 o67 o70) [] []) 4 (QJ.o { val := iv (Int.tmod o70.1 p1) } (q_int (P := Try.prog) (op := .rem) (ty := 3) (ox := (.tmp 81)) (oy := (.tmp 83)) (k := .i64) (k' := .i64) (y := o70.1) (z := p1) (by kernel_rfl) (rem_ok hg73)) (QJ.dn ⟨rfl, SJ.la⟩))))
       refine TS.cd (.tmp 85) ((Int.tmod o67.1 p1) != (Int.tmod o70.1 p1)) (fun hc74 => ?_) (fun hc74 => ?_)
       · replace hF := of_pos hF hc74
         refine TS.sq (TS.rg (TI.rn 1 [4] [0, 1] (st 104 [(4, .bool false)]) [ab 57 e57 p2, ab 3 e3 p3, .dead, .dead, .dead] (TI.dn (NX.sq (TS.rt (NX.bkR (NX.sqR ?_)))))))
         have hF := sj hF
         subst hF
         exact Rd.out (e := .ret) (by intro h; cases h) (And.intro rfl (Wk.an [] (.ac (.ac (.nil _))) [.bool false] (.fl .nil)))
       replace hF := of_neg hF hc74
       refine TS.sk (NX.bk (NX.sq (TS.rg (TI.ra 2 [1, 2, 5, 20, 21, 22] (S34_14 p3 v27 o67 v28) (TI.dn ?_)))))
       exact Rd.again (a2 := (S34_14 p3 v27 o67 v28)) (h2 := (H34_20 p2 p3 p0 p1)) (Wk.an [2] (.ac (.ac (.lt (.fl (.fl (.sl .nil))) (.nil _)))) [sv 1 p3.length ANY, pt 2 0, iv (w64 (v27 + o67.2)), sv 1 p3.length ANY, iv (p3.length : Int), iv (w64 (v28 + 1))] (.sl (.pp (.fl (.sl (.fl (.fl .nil))))))) (ih (w64 (v27 + o67.2)) (w64 (v28 + 1)) _ hF)
     replace hF := of_neg hF hc72
     refine TS.sq (TS.rg (TI.ra 5 [1, 2, 5, 9, 10, 20, 21, 22] (st 104 [(1, sv 1 p3.length ANY), (2, pt 2 0), (5, iv (w64 (v27 - o67.2))), (9, pt 3 0), (10, pt 4 0), (20, sv 1 p3.length ANY), (21, iv (p3.length : Int)), (22, iv v28)]) (TI.dn (NX.sq (TS.sq ?_)))))
     obtain ⟨hg75, hF⟩ := of_guardn hF
     refine TS.dp [] (fun e he => by cases he) mixed 10 [1, 2, 5, 20, 21, 22, 100] [0, 1, 2] (st 104 [(1, sv 1 p3.length ANY), (2, pt 2 0), (5, iv (w64 (v27 - o67.2))), (20, sv 1 p3.length ANY), (21, iv (p3.length : Int)), (22, iv v28), (100, .bool ((Int.tmod o67.1 p0) != (Int.tmod o70.1 p0)))]) (H34_19 p2 p3 p0 p1) ?_ ?_
     · exact QJ.rn (qs (st 104 [(1, sv 1 p3.length ANY), (2, pt 2 0), (5, iv (w64 (v27 - o67.2))), (9, pt 3 0), (10, pt 4 0), (20, sv 1 p3.length ANY), (21, iv (p3.length : Int)), (22, iv v28), (90, pt 3 0), (91, iv o67.1), (92, pt 2 0), (93, iv p0)]) (H34_13 p2 p3 p0 p1 o67 o70) [] []) 4 (QJ.o { val := iv (Int.tmod o67.1 p0) } (q_int (P := Try.prog) (op := .rem) (ty := 3) (ox := (.tmp 91)) (oy := (.tmp 93)) (k := .i64) (k' := .i64) (y := o67.1) (z := p0) (by kernel_rfl) (rem_ok hg75)) (QJ.rn (qs (st 104 [(1, sv 1 p3.length ANY), (2, pt 2 0), (5, iv (w64 (v27 - o67.2))), (9, pt 3 0), (10, pt 4 0), (20, sv 1 p3.length ANY), (21, iv (p3.length : Int)), (22, iv v28), (90, pt 3 0), (91, iv o67.1), (92, pt 2 0), (93, iv p0), (94, iv (Int.tmod o67.1 p0)), (95, pt 4 0), (96, iv o70.1), (97, pt 2 0), (98, iv p0)]) (H34_13 p2 p3 p0 p1 o67 o70) [] []) 4 (QJ.o { val := iv (Int.tmod o70.1 p0) } (q_int (P := Try.prog) (op := .rem) (ty := 3) (ox := (.tmp 96)) (oy := (.tmp 98)) (k := .i64) (k' := .i64) (y := o70.1) (z := p0) (by kernel_rfl) (rem_ok hg75)) (QJ.dn ⟨rfl, SJ.la⟩))))
     refine TS.cd (.tmp 100) ((Int.tmod o67.1 p0) != (Int.tmod o70.1 p0)) (fun hc76 => ?_) (fun hc76 => ?_)
     · replace hF := of_pos hF hc76
       refine TS.sq (TS.rg (TI.rn 1 [4] [0, 1] (st 104 [(4, .bool false)]) [ab 57 e57 p2, ab 3 e3 p3, .dead, .dead, .dead] (TI.dn (NX.sq (TS.rt (NX.bkR (NX.sqR ?_)))))))
       have hF := sj hF
       subst hF
       exact Rd.out (e := .ret) (by intro h; cases h) (And.intro rfl (Wk.an [] (.ac (.ac (.nil _))) [.bool false] (.fl .nil)))
     replace hF := of_neg hF hc76
     refine TS.sk (NX.bk (NX.sq (TS.rg (TI.ra 2 [1, 2, 5, 20, 21, 22] (S34_15 p3 v27 o67 v28) (TI.dn ?_)))))
     exact Rd.again (a2 := (S34_15 p3 v27 o67 v28)) (h2 := (H34_20 p2 p3 p0 p1)) (Wk.an [2] (.ac (.ac (.lt (.fl (.fl (.sl .nil))) (.nil _)))) [sv 1 p3.length ANY, pt 2 0, iv (w64 (v27 - o67.2)), sv 1 p3.length ANY, iv (p3.length : Int), iv (w64 (v28 + 1))] (.sl (.pp (.fl (.sl (.fl (.fl .nil))))))) (ih (w64 (v27 - o67.2)) (w64 (v28 + 1)) _ hF)
   rcases Bool.eq_false_or_eq_true (decide (o56 < 0)) with hc62 | hc62
   · replace hm77 := of_pos hm77 hc62
     have hm77 := sj hm77
     subst hm77
     exact TS.rg (TI.ra 1 [1, 2, 5, 6, 7, 8, 20, 21, 22, 38] (S34_12 p3 v27 v28 o56 o60) (TI.o { val := .bool true } (q_conv (e := decide (o56 < 0)) (b := true) (by kernel_rfl) hc62) [1, 2, 5, 6, 7, 8, 20, 21, 22, 39] [0, 1, 2] (st 104 [(1, sv 1 p3.length ANY), (2, pt 2 0), (5, iv v27), (6, iv v28), (7, iv o56), (8, iv o60), (20, sv 1 p3.length ANY), (21, iv (p3.length : Int)), (22, iv v28), (39, .bool true)]) (H34_20 p2 p3 p0 p1) (TI.ra 18 [1, 2, 5, 6, 7, 8, 20, 21, 22, 57] (S34_11 p3 v27 v28 o56 o60) (TI.dn hK))))
   replace hm77 := of_neg hm77 hc62
   rcases Bool.eq_false_or_eq_true (decide (o56 ≥ (p2.length : Int))) with hc63 | hc63
   · replace hm77 := of_pos hm77 hc63
     have hm77 := sj hm77
     subst hm77
     exact TS.rg (TI.ra 1 [1, 2, 5, 6, 7, 8, 20, 21, 22, 38] (S34_12 p3 v27 v28 o56 o60) (TI.o { val := .bool false } (q_conv (e := decide (o56 < 0)) (b := false) (by kernel_rfl) hc62) [1, 2, 5, 6, 7, 8, 20, 21, 22, 39] [0, 1, 2] (S34_10 p3 v27 v28 o56 o60) (H34_20 p2 p3 p0 p1) (TI.ra 5 [1, 2, 5, 6, 7, 8, 20, 21, 22, 40, 41, 44] (S34_7 p3 v27 v28 o56 o60 p2) (TI.o { val := .bool true } (q_conv (e := decide (o56 ≥ (p2.length : Int))) (b := true) (by kernel_rfl) hc63) [1, 2, 5, 6, 7, 8, 20, 21, 22, 40, 45] [0, 1, 2] (st 104 [(1, sv 1 p3.length ANY), (2, pt 2 0), (5, iv v27), (6, iv v28), (7, iv o56), (8, iv o60), (20, sv 1 p3.length ANY), (21, iv (p3.length : Int)), (22, iv v28), (40, .bool false), (45, .bool true)]) (H34_20 p2 p3 p0 p1) (TI.ra 12 [1, 2, 5, 6, 7, 8, 20, 21, 22, 57] (S34_11 p3 v27 v28 o56 o60) (TI.dn hK))))))
   replace hm77 := of_neg hm77 hc63
   rcases Bool.eq_false_or_eq_true (decide (o60 < 0)) with hc64 | hc64
   · replace hm77 := of_pos hm77 hc64
     have hm77 := sj hm77
     subst hm77
     refine TS.rg (TI.ra 1 [1, 2, 5, 6, 7, 8, 20, 21, 22, 38] (S34_12 p3 v27 v28 o56 o60) (TI.o { val := .bool false } (q_conv (e := decide (o56 < 0)) (b := false) (by kernel_rfl) hc62) [1, 2, 5, 6, 7, 8, 20, 21, 22, 39] [0, 1, 2] (S34_10 p3 v27 v28 o56 o60) (H34_20 p2 p3 p0 p1) (TI.ra 5 [1, 2, 5, 6, 7, 8, 20, 21, 22, 40, 41, 44] (S34_7 p3 v27 v28 o56 o60 p2) (TI.o { val := .bool false } (q_conv (e := decide (o56 ≥ (p2.length : Int))) (b := false) (by kernel_rfl) hc63) [1, 2, 5, 6, 7, 8, 20, 21, 22, 40, 45] [0, 1, 2] (S34_8 p3 v27 v28 o56 o60) (H34_20 p2 p3 p0 p1) (TI.ra 3 [1, 2, 5, 6, 7, 8, 20, 21, 22, 47, 48] (S34_9 p3 v27 v28 o56 o60) (TI.o { val := .bool true } (q_conv (e := decide (o60 < 0)) (b := true) (by kernel_rfl) hc64) [1, 2, 5, 6, 7, 8, 20, 21, 22, 47, 49] [0, 1, 2] (st 104 [(1, sv 1 p3.length ANY), (2, pt 2 0), (5, iv v27), (6, iv v28), (7, iv o56), (8, iv o60), (20, sv 1 p3.length ANY), (21, iv (p3.length : Int)), (22, iv v28), (47, .bool false), (49, .bool true)]) (H34_20 p2 p3 p0 p1) (TI.ra 8 [1, 2, 5, 6, 7, 8, 20, 21, 22, 57] (S34_11 p3 v27 v28 o56 o60) (TI.dn ?_))))))))
     exact hK
   replace hm77 := of_neg hm77 hc64
   have hm77 := sj hm77
   subst hm77
   refine TS.rg (TI.ra 1 [1, 2, 5, 6, 7, 8, 20, 21, 22, 38] (S34_12 p3 v27 v28 o56 o60) (TI.o { val := .bool false } (q_conv (e := decide (o56 < 0)) (b := false) (by kernel_rfl) hc62) [1, 2, 5, 6, 7, 8, 20, 21, 22, 39] [0, 1, 2] (S34_10 p3 v27 v28 o56 o60) (H34_20 p2 p3 p0 p1) (TI.ra 5 [1, 2, 5, 6, 7, 8, 20, 21, 22, 40, 41, 44] (S34_7 p3 v27 v28 o56 o60 p2) (TI.o { val := .bool false } (q_conv (e := decide (o56 ≥ (p2.length : Int))) (b := false) (by kernel_rfl) hc63) [1, 2, 5, 6, 7, 8, 20, 21, 22, 40, 45] [0, 1, 2] (S34_8 p3 v27 v28 o56 o60) (H34_20 p2 p3 p0 p1) (TI.ra 3 [1, 2, 5, 6, 7, 8, 20, 21, 22, 47, 48] (S34_9 p3 v27 v28 o56 o60) (TI.o { val := .bool false } (q_conv (e := decide (o60 < 0)) (b := false) (by kernel_rfl) hc64) [1, 2, 5, 6, 7, 8, 20, 21, 22, 47, 49] [0, 1, 2] (st 104 [(1, sv 1 p3.length ANY), (2, pt 2 0), (5, iv v27), (6, iv v28), (7, iv o56), (8, iv o60), (20, sv 1 p3.length ANY), (21, iv (p3.length : Int)), (22, iv v28), (47, .bool false), (49, .bool false)]) (H34_20 p2 p3 p0 p1) (TI.ra 8 [1, 2, 5, 6, 7, 8, 20, 21, 22, 57] (st 104 [(1, sv 1 p3.length ANY), (2, pt 2 0), (5, iv v27), (6, iv v28), (7, iv o56), (8, iv o60), (20, sv 1 p3.length ANY), (21, iv (p3.length : Int)), (22, iv v28), (57, .bool (decide (o60 ≥ (p2.length : Int))))]) (TI.dn ?_))))))))
   exact hK
 replace hF := of_neg hF hc54
 refine TS.ex 0 (NX.sqX ?_)
 have hF := sj hF
 subst hF
 exact Rd.out (e := .exit 0) (by intro h; cases h) (And.intro rfl (Wk.an [] (.ac (.ac (.nil _))) [iv v27] (.fl .nil)))
theorem B34 (p0 p1 : Int) (p2 : List I2) (p3 : List Int) (r : Bool) (hF : F34 p0 p1 p2 p3 = some r) : TS Try.prog 2 2 c34 (st 104 [(0, ag [iv p0, iv p1, sv 0 p2.length ANY]), (1, sv 1 p3.length ANY)]) (H34_22 p2 p3) (NX Try.prog 2 2 [] (FinP Try.prog Try.f34 2 (V34 2 r) (N34 2 r))) := by
 unfold F34 at hF
 refine TS.sq (TS.rg (TI.rn 2 [1, 2] [0, 1, 2] (st 104 [(1, sv 1 p3.length ANY), (2, pt 2 0)]) (H34_20 p2 p3 p0 p1) (TI.dn (NX.sq (TS.sq (TS.sq ?_))))))
 obtain ⟨m2, hm82, hF⟩ := of_do hF
 have hK : NX Try.prog 2 2 [.sq c34.s2.s1.s2, .sq c34.s2.s2] (FinP Try.prog Try.f34 2 (V34 2 r) (N34 2 r)) .normal (st 104 [(1, sv 1 p3.length ANY), (2, pt 2 0), (19, .bool m2)]) (H34_20 p2 p3 p0 p1) := by
  refine NX.sq ?_
  cases m2 with
  | true =>
   replace hF := of_pos hF rfl
   refine TS.cdT (.tmp 19) (TS.sq (TS.rg (TI.rn 1 [4] [0, 1] (st 104 [(4, .bool false)]) [ab 57 e57 p2, ab 3 e3 p3, .dead] (TI.dn (NX.sq (TS.rt (NX.sqR ?_)))))))
   have hF := sj hF
   subst hF
   exact ⟨.inr rfl, rfl, .bool false, by kernel_rfl, WkV.flat0 (by kernel_rfl) (nl rfl)⟩
  | false =>
   replace hF := of_neg hF rfl
   refine TS.cdF (.tmp 19) (TS.sk (NX.sq (TS.sq (TS.rg (TI.ra 1 [1, 2, 5] (st 104 [(1, sv 1 p3.length ANY), (2, pt 2 0), (5, iv 0)]) (TI.dn (NX.sq (TS.sq ?_))))))))
   refine TS.sq (TS.rg (TI.ra 3 [1, 2, 5, 20, 21, 22] (S34_18 p3) (TI.dn (NX.sq (TS.bk 0 ?_)))))
   obtain ⟨r78, h79, hF⟩ := of_do hF
   refine TS.lp (TL.weak (a2 := (S34_18 p3)) (h2 := (H34_20 p2 p3 p0 p1)) (Wk.an [2] (.ac (.ac (.lt (.fl (.fl (.sl .nil))) (.nil _)))) [sv 1 p3.length ANY, pt 2 0, iv 0, sv 1 p3.length ANY, iv (p3.length : Int), iv 0] (.sl (.pp (.fl (.sl (.fl (.fl .nil))))))) (TL.post (L34l0 p0 p1 p2 p3 0 0 r78 h79) ?_))
   rintro e a1 h1 hp
   rcases r78 with o80 | o81
   · skip
     obtain ⟨rfl, hw⟩ := hp
     refine ⟨(st 104 [(4, .bool false)]), (H34_22 p2 p3), (NX.bkR (NX.sqR ?_)), hw⟩
     have hF := sj hF
     subst hF
     exact ⟨.inr rfl, rfl, .bool false, by kernel_rfl, WkV.flat0 (by kernel_rfl) (nl rfl)⟩
   skip
   obtain ⟨rfl, hw⟩ := hp
   refine ⟨(st 104 [(5, iv o81)]), (H34_22 p2 p3), (NX.bkX (NX.sq (TS.sq (TS.rg (TI.ra 3 [4] (st 104 [(4, .bool (o81 != 0))]) (TI.dn (NX.sq (TS.rt ?_)))))))), hw⟩
   have hF := sj hF
   subst hF
   exact ⟨.inr rfl, rfl, .bool (o81 != 0), by kernel_rfl, WkV.flat0 (by kernel_rfl) (nl rfl)⟩
 rcases Bool.eq_false_or_eq_true (decide ((p3.length : Int) < 2)) with hc1 | hc1
 · replace hm82 := of_pos hm82 hc1
   have hm82 := sj hm82
   subst hm82
   exact TS.rg (TI.ra 2 [1, 2, 12] (S34_21 p3) (TI.o { val := .bool true } (q_conv (e := decide ((p3.length : Int) < 2)) (b := true) (by kernel_rfl) hc1) [1, 2, 13] [0, 1, 2] (st 104 [(1, sv 1 p3.length ANY), (2, pt 2 0), (13, .bool true)]) (H34_20 p2 p3 p0 p1) (TI.ra 6 [1, 2, 19] (st 104 [(1, sv 1 p3.length ANY), (2, pt 2 0), (19, .bool true)]) (TI.dn hK))))
 replace hm82 := of_neg hm82 hc1
 have hm82 := sj hm82
 subst hm82
 exact TS.rg (TI.ra 2 [1, 2, 12] (S34_21 p3) (TI.o { val := .bool false } (q_conv (e := decide ((p3.length : Int) < 2)) (b := false) (by kernel_rfl) hc1) [1, 2, 13] [0, 1, 2] (st 104 [(1, sv 1 p3.length ANY), (2, pt 2 0), (13, .bool false)]) (H34_20 p2 p3 p0 p1) (TI.ra 6 [1, 2, 19] (st 104 [(1, sv 1 p3.length ANY), (2, pt 2 0), (19, .bool ((Int.tmod (p3.length : Int) 2) == 1))]) (TI.dn hK))))
theorem C34 (p0 p1 : Int) (p2 : List I2) (p3 : List Int) (r : Bool) (hF : F34 p0 p1 p2 p3 = some r) : PureSim Try.prog 34 [ag [iv p0, iv p1, sv 0 p2.length ANY], sv 1 p3.length ANY] (H34_22 p2 p3) (V34 2 r) (N34 2 r) :=
 PureSim.of_Fin Try.func34 (c := c34) (by kernel_rfl) (by kernel_rfl) 2 rfl [0, 1] [0, 1] (by kernel_rfl) (B34 p0 p1 p2 p3 r hF)
noncomputable def c33 : Code := Try.f33.code
def S33_0 (p3 : List Int) (p4 : Int) (p2 : List I2) (o4 : Int) (o7 : I2) (p1 o11 : Int) (o14 : I2) : CAct := (st 142 [(1, sv 1 p3.length ANY), (2, iv p4), (3, pt 2 0), (7, iv (p3.length : Int)), (17, iv (p3.length : Int)), (18, .bool true), (19, .bool true), (20, iv (p3.length : Int)), (21, iv (Int.tmod (p3.length : Int) 2)), (22, .bool true), (23, .bool true), (24, .bool true), (25, pt 2 2), (26, sv 0 p2.length ANY), (27, sv 1 p3.length ANY), (28, .pointer (some ⟨1, 0 + (Int.toNat 0) * 1, none⟩)), (29, iv o4), (30, .pointer (some ⟨0, 0 + (Int.toNat o4) * 2, none⟩)), (31, .pointer (some ⟨0, 0 + (Int.toNat o4) * 2, none⟩)), (32, iv o7.1), (33, pt 2 1), (34, iv p1), (35, iv (Int.tmod o7.1 p1)), (36, pt 2 2), (37, sv 0 p2.length ANY), (38, sv 1 p3.length ANY), (39, iv (p3.length : Int)), (40, iv (w64 ((p3.length : Int) - 1))), (41, .pointer (some ⟨1, 0 + (Int.toNat (w64 ((p3.length : Int) - 1))) * 1, none⟩)), (42, iv o11), (43, .pointer (some ⟨0, 0 + (Int.toNat o11) * 2, none⟩)), (44, .pointer (some ⟨0, 0 + (Int.toNat o11) * 2, none⟩)), (45, iv o14.1), (46, pt 2 1), (47, iv p1)])
def S33_1 (p3 : List Int) (p4 : Int) (p2 : List I2) (o4 : Int) (o7 : I2) (p1 o11 : Int) : CAct := (st 142 [(1, sv 1 p3.length ANY), (2, iv p4), (3, pt 2 0), (7, iv (p3.length : Int)), (17, iv (p3.length : Int)), (18, .bool true), (19, .bool true), (20, iv (p3.length : Int)), (21, iv (Int.tmod (p3.length : Int) 2)), (22, .bool true), (23, .bool true), (24, .bool true), (25, pt 2 2), (26, sv 0 p2.length ANY), (27, sv 1 p3.length ANY), (28, .pointer (some ⟨1, 0 + (Int.toNat 0) * 1, none⟩)), (29, iv o4), (30, .pointer (some ⟨0, 0 + (Int.toNat o4) * 2, none⟩)), (31, .pointer (some ⟨0, 0 + (Int.toNat o4) * 2, none⟩)), (32, iv o7.1), (33, pt 2 1), (34, iv p1), (35, iv (Int.tmod o7.1 p1)), (36, pt 2 2), (37, sv 0 p2.length ANY), (38, sv 1 p3.length ANY), (39, iv (p3.length : Int)), (40, iv (w64 ((p3.length : Int) - 1))), (41, .pointer (some ⟨1, 0 + (Int.toNat (w64 ((p3.length : Int) - 1))) * 1, none⟩)), (42, iv o11), (43, .pointer (some ⟨0, 0 + (Int.toNat o11) * 2, none⟩)), (44, .pointer (some ⟨0, 0 + (Int.toNat o11) * 2, none⟩))])
def S33_2 (p3 : List Int) (p4 : Int) (p2 : List I2) (o4 : Int) (o7 : I2) (p1 : Int) : CAct := (st 142 [(1, sv 1 p3.length ANY), (2, iv p4), (3, pt 2 0), (7, iv (p3.length : Int)), (17, iv (p3.length : Int)), (18, .bool true), (19, .bool true), (20, iv (p3.length : Int)), (21, iv (Int.tmod (p3.length : Int) 2)), (22, .bool true), (23, .bool true), (24, .bool true), (25, pt 2 2), (26, sv 0 p2.length ANY), (27, sv 1 p3.length ANY), (28, .pointer (some ⟨1, 0 + (Int.toNat 0) * 1, none⟩)), (29, iv o4), (30, .pointer (some ⟨0, 0 + (Int.toNat o4) * 2, none⟩)), (31, .pointer (some ⟨0, 0 + (Int.toNat o4) * 2, none⟩)), (32, iv o7.1), (33, pt 2 1), (34, iv p1), (35, iv (Int.tmod o7.1 p1)), (36, pt 2 2), (37, sv 0 p2.length ANY), (38, sv 1 p3.length ANY), (39, iv (p3.length : Int)), (40, iv (w64 ((p3.length : Int) - 1)))])
def S33_3 (p3 : List Int) (p4 v82 : Int) (p2 : List I2) (o150 : I2) (p0 : Int) (o212 : I2) : CAct := (st 142 [(1, sv 1 p3.length ANY), (2, iv p4), (3, pt 2 0), (7, iv (p3.length : Int)), (8, iv v82), (9, pt 3 0), (13, pt 4 0), (56, sv 0 p2.length ANY), (57, iv (p2.length : Int)), (58, iv v82), (88, iv (p3.length : Int)), (89, iv (Int.tmod (p3.length : Int) 2)), (90, .bool true), (91, .bool true), (92, pt 3 0), (93, iv o150.1), (94, pt 2 0), (95, iv p0), (96, iv (Int.tmod o150.1 p0)), (97, pt 4 0), (98, iv o212.1), (99, pt 2 0), (100, iv p0), (101, iv (Int.tmod o212.1 p0)), (102, .bool false), (103, .bool false), (104, .bool false), (105, iv (p3.length : Int)), (106, iv (Int.tmod (p3.length : Int) 2))])
def S33_4 (p3 : List Int) (p4 : Int) (p2 : List I2) (o4 : Int) (o7 : I2) (p1 : Int) : CAct := (st 142 [(1, sv 1 p3.length ANY), (2, iv p4), (3, pt 2 0), (7, iv (p3.length : Int)), (17, iv (p3.length : Int)), (18, .bool true), (19, .bool true), (20, iv (p3.length : Int)), (21, iv (Int.tmod (p3.length : Int) 2)), (22, .bool true), (23, .bool true), (24, .bool true), (25, pt 2 2), (26, sv 0 p2.length ANY), (27, sv 1 p3.length ANY), (28, .pointer (some ⟨1, 0 + (Int.toNat 0) * 1, none⟩)), (29, iv o4), (30, .pointer (some ⟨0, 0 + (Int.toNat o4) * 2, none⟩)), (31, .pointer (some ⟨0, 0 + (Int.toNat o4) * 2, none⟩)), (32, iv o7.1), (33, pt 2 1), (34, iv p1)])
def S33_5 (p3 : List Int) (p4 v82 m199 : Int) (p2 : List I2) (p0 p1 : Int) : CAct := (st 142 [(1, sv 1 p3.length ANY), (2, iv p4), (3, pt 2 0), (7, iv (p3.length : Int)), (8, iv v82), (14, iv m199), (56, sv 0 p2.length ANY), (57, iv (p2.length : Int)), (58, iv v82), (129, ag [iv p0, iv p1, sv 0 p2.length ANY]), (130, sv 3 0 0), (131, sv 1 p3.length ANY), (132, ownV 4 p3.length), (133, iv v82), (134, sv 5 1 1), (135, ownV 6 (List.length (p3 ++ ([v82])))), (136, iv p4), (137, iv m199), (138, iv (w64 (p4 + m199))), (139, .bool true), (140, .bool false)])
def S33_6 (p3 : List Int) (p4 v82 m199 : Int) (p2 : List I2) (p0 p1 : Int) : CAct := (st 142 [(1, sv 1 p3.length ANY), (2, iv p4), (3, pt 2 0), (7, iv (p3.length : Int)), (8, iv v82), (14, iv m199), (56, sv 0 p2.length ANY), (57, iv (p2.length : Int)), (58, iv v82), (129, ag [iv p0, iv p1, sv 0 p2.length ANY]), (130, sv 3 0 0), (131, sv 1 p3.length ANY), (132, ownV 4 p3.length), (133, iv v82), (134, sv 5 1 1), (135, ownV 6 (List.length (p3 ++ ([v82])))), (136, iv p4), (137, iv m199), (138, iv (w64 (p4 + m199))), (139, .bool false), (140, .bool true)])
def S33_7 (p3 : List Int) (p4 v82 : Int) (p2 : List I2) : CAct := (st 142 [(1, sv 1 p3.length ANY), (2, iv p4), (3, pt 2 0), (7, iv (p3.length : Int)), (8, iv v82), (9, pt 3 0), (13, pt 4 0), (56, sv 0 p2.length ANY), (57, iv (p2.length : Int)), (58, iv v82), (88, iv (p3.length : Int)), (89, iv (Int.tmod (p3.length : Int) 2)), (90, .bool false), (91, .bool false), (92, undef), (93, undef), (94, undef), (95, undef), (96, undef), (97, undef), (98, undef), (99, undef), (100, undef), (101, undef), (102, undef), (103, .bool false), (104, .bool false), (105, iv (p3.length : Int)), (106, iv (Int.tmod (p3.length : Int) 2))])
def S33_8 (p3 : List Int) (p4 : Int) (p2 : List I2) (o4 : Int) : CAct := (st 142 [(1, sv 1 p3.length ANY), (2, iv p4), (3, pt 2 0), (7, iv (p3.length : Int)), (17, iv (p3.length : Int)), (18, .bool true), (19, .bool true), (20, iv (p3.length : Int)), (21, iv (Int.tmod (p3.length : Int) 2)), (22, .bool true), (23, .bool true), (24, .bool true), (25, pt 2 2), (26, sv 0 p2.length ANY), (27, sv 1 p3.length ANY), (28, .pointer (some ⟨1, 0 + (Int.toNat 0) * 1, none⟩)), (29, iv o4), (30, .pointer (some ⟨0, 0 + (Int.toNat o4) * 2, none⟩)), (31, .pointer (some ⟨0, 0 + (Int.toNat o4) * 2, none⟩))])
def S33_9 (p3 : List Int) (p4 v82 m199 : Int) (p2 : List I2) (p0 p1 : Int) : CAct := (st 142 [(1, sv 1 p3.length ANY), (2, iv p4), (3, pt 2 0), (7, iv (p3.length : Int)), (8, iv v82), (14, iv m199), (56, sv 0 p2.length ANY), (57, iv (p2.length : Int)), (58, iv v82), (129, ag [iv p0, iv p1, sv 0 p2.length ANY]), (130, sv 3 0 0), (131, sv 1 p3.length ANY), (132, ownV 4 p3.length), (133, iv v82), (134, sv 5 1 1), (135, ownV 6 (List.length (p3 ++ ([v82])))), (136, iv p4), (137, iv m199), (138, iv (w64 (p4 + m199)))])
def S33_10 (p3 : List Int) (p4 v82 m199 : Int) (p2 : List I2) (p0 p1 : Int) : CAct := (st 142 [(1, sv 1 p3.length ANY), (2, iv p4), (3, pt 2 0), (7, iv (p3.length : Int)), (8, iv v82), (14, iv m199), (56, sv 0 p2.length ANY), (57, iv (p2.length : Int)), (58, iv v82), (129, ag [iv p0, iv p1, sv 0 p2.length ANY]), (130, sv 3 0 0), (131, sv 1 p3.length ANY), (132, ownV 4 p3.length), (133, iv v82), (134, sv 5 1 1), (135, ownV 6 (List.length (p3 ++ ([v82]))))])
def S33_11 (p3 : List Int) (p4 v82 : Int) (p2 : List I2) (o150 : I2) (p0 : Int) (o212 : I2) : CAct := (st 142 [(1, sv 1 p3.length ANY), (2, iv p4), (3, pt 2 0), (7, iv (p3.length : Int)), (8, iv v82), (9, pt 3 0), (13, pt 4 0), (56, sv 0 p2.length ANY), (57, iv (p2.length : Int)), (58, iv v82), (88, iv (p3.length : Int)), (89, iv (Int.tmod (p3.length : Int) 2)), (90, .bool true), (91, .bool true), (92, pt 3 0), (93, iv o150.1), (94, pt 2 0), (95, iv p0), (96, iv (Int.tmod o150.1 p0)), (97, pt 4 0), (98, iv o212.1), (99, pt 2 0), (100, iv p0)])
def S33_12 (p3 : List Int) (p4 v82 m199 : Int) (p2 : List I2) (p0 p1 : Int) : CAct := (st 142 [(1, sv 1 p3.length ANY), (2, iv p4), (3, pt 2 0), (7, iv (p3.length : Int)), (8, iv v82), (14, iv m199), (56, sv 0 p2.length ANY), (57, iv (p2.length : Int)), (58, iv v82), (129, ag [iv p0, iv p1, sv 0 p2.length ANY]), (130, sv 3 0 0), (131, sv 1 p3.length ANY), (132, ownV 4 p3.length), (133, iv v82), (134, sv 5 1 1)])
def S33_13 (p3 : List Int) (p4 v82 m199 : Int) (p2 : List I2) (p0 p1 : Int) : CAct := (st 142 [(1, sv 1 p3.length ANY), (2, iv p4), (3, pt 2 0), (7, iv (p3.length : Int)), (8, iv v82), (14, iv m199), (56, sv 0 p2.length ANY), (57, iv (p2.length : Int)), (58, iv v82), (129, ag [iv p0, iv p1, sv 0 p2.length ANY]), (130, sv 3 0 0), (131, sv 1 p3.length ANY), (132, ownV 4 p3.length)])
def S33_14 (p3 : List Int) (p4 : Int) (p2 : List I2) : CAct := (st 142 [(1, sv 1 p3.length ANY), (2, iv p4), (3, pt 2 0), (7, iv (p3.length : Int)), (17, iv (p3.length : Int)), (18, .bool true), (19, .bool true), (20, iv (p3.length : Int)), (21, iv (Int.tmod (p3.length : Int) 2)), (22, .bool true), (23, .bool true), (24, .bool true), (25, pt 2 2), (26, sv 0 p2.length ANY), (27, sv 1 p3.length ANY)])
def S33_15 (p3 : List Int) (p4 v82 : Int) (p2 : List I2) (o150 : I2) (p0 : Int) : CAct := (st 142 [(1, sv 1 p3.length ANY), (2, iv p4), (3, pt 2 0), (7, iv (p3.length : Int)), (8, iv v82), (9, pt 3 0), (13, pt 4 0), (56, sv 0 p2.length ANY), (57, iv (p2.length : Int)), (58, iv v82), (88, iv (p3.length : Int)), (89, iv (Int.tmod (p3.length : Int) 2)), (90, .bool true), (91, .bool true), (92, pt 3 0), (93, iv o150.1), (94, pt 2 0), (95, iv p0)])
def S33_16 (p3 : List Int) (p4 v82 m199 : Int) (p2 : List I2) (p0 p1 : Int) : CAct := (st 142 [(1, sv 1 p3.length ANY), (2, iv p4), (3, pt 2 0), (7, iv (p3.length : Int)), (8, iv v82), (14, iv m199), (56, sv 0 p2.length ANY), (57, iv (p2.length : Int)), (58, iv v82), (129, ag [iv p0, iv p1, sv 0 p2.length ANY]), (130, sv 3 0 0), (131, sv 1 p3.length ANY)])
def S33_17 (p3 : List Int) (p4 v82 : Int) (m170 : Bool) (p2 : List I2) (v157 : Int) : CAct := (st 142 [(1, sv 1 p3.length ANY), (2, iv p4), (3, pt 2 0), (7, iv (p3.length : Int)), (8, iv v82), (9, pt 3 0), (10, .bool m170), (56, sv 0 p2.length ANY), (57, iv (p2.length : Int)), (58, iv v82), (63, sv 1 p3.length ANY), (64, iv (p3.length : Int)), (65, iv (w64 (v157 + 1)))])
def S33_18 (p3 : List Int) (p4 v82 : Int) (v156 : Bool) (p2 : List I2) (v157 : Int) : CAct := (st 142 [(1, sv 1 p3.length ANY), (2, iv p4), (3, pt 2 0), (7, iv (p3.length : Int)), (8, iv v82), (9, pt 3 0), (10, .bool v156), (56, sv 0 p2.length ANY), (57, iv (p2.length : Int)), (58, iv v82), (63, sv 1 p3.length ANY), (64, iv (p3.length : Int)), (65, iv v157)])
def S33_19 (p3 : List Int) (p4 v82 : Int) (p2 : List I2) : CAct := (st 142 [(1, sv 1 p3.length ANY), (2, iv p4), (3, pt 2 0), (7, iv (p3.length : Int)), (8, iv v82), (9, pt 3 0), (10, .bool false), (56, sv 0 p2.length ANY), (57, iv (p2.length : Int)), (58, iv v82), (63, sv 1 p3.length ANY), (64, iv (p3.length : Int)), (65, iv 0)])
def S33_20 (p3 : List Int) (p4 v82 : Int) (p2 : List I2) : CAct := (st 142 [(1, sv 1 p3.length ANY), (2, iv p4), (3, pt 2 0), (7, iv (p3.length : Int)), (8, iv v82), (9, pt 3 0), (13, pt 4 0), (56, sv 0 p2.length ANY), (57, iv (p2.length : Int)), (58, iv v82), (88, iv (p3.length : Int)), (89, iv (Int.tmod (p3.length : Int) 2))])
def S33_21 (p3 : List Int) (p4 v82 : Int) (p2 : List I2) (o150 : I2) (p1 : Int) (o212 : I2) : CAct := (st 142 [(1, sv 1 p3.length ANY), (2, iv p4), (3, pt 2 0), (7, iv (p3.length : Int)), (8, iv v82), (9, pt 3 0), (56, sv 0 p2.length ANY), (57, iv (p2.length : Int)), (58, iv v82), (121, .bool ((Int.tmod o150.1 p1) != (Int.tmod o212.1 p1)))])
def S33_22 (p3 : List Int) (p4 v82 : Int) (p2 : List I2) : CAct := (st 142 [(1, sv 1 p3.length ANY), (2, iv p4), (3, pt 2 0), (7, iv (p3.length : Int)), (8, iv v82), (9, pt 3 0), (56, sv 0 p2.length ANY), (57, iv (p2.length : Int)), (58, iv v82), (121, .bool false)])
def S33_23 (p3 : List Int) (p4 : Int) : CAct := (st 142 [(1, sv 1 p3.length ANY), (2, iv p4), (3, pt 2 0), (7, iv (p3.length : Int)), (17, iv (p3.length : Int)), (18, .bool true), (19, .bool true), (20, iv (p3.length : Int)), (21, iv (Int.tmod (p3.length : Int) 2))])
def S33_24 (p3 : List Int) (p4 v82 : Int) (p2 : List I2) : CAct := (st 142 [(1, sv 1 p3.length ANY), (2, iv p4), (3, pt 2 0), (7, iv (p3.length : Int)), (8, iv v82), (9, pt 3 0), (56, sv 0 p2.length ANY), (57, iv (p2.length : Int)), (58, iv v82)])
def H33_25 (p2 : List I2) (p3 : List Int) (p0 p1 v82 : Int) : List Blk := [ab 57 e57 p2, ab 3 e3 p3, cl 24 [iv p0, iv p1, sv 0 p2.length ANY], .dead, .dead, cl 3 [iv v82], .cells 3 (List.flatMap e3 (p3 ++ ([v82])))]
def S33_26 (p3 : List Int) (p4 : Int) (p2 : List I2) (v82 : Int) : CAct := (st 142 [(1, sv 1 p3.length ANY), (2, iv p4), (3, pt 2 0), (7, iv (p3.length : Int)), (56, sv 0 p2.length ANY), (57, iv (p2.length : Int)), (58, iv (w64 (v82 + 1)))])
def H33_27 (p2 : List I2) (p3 : List Int) (p0 p1 : Int) (o150 o212 : I2) : List Blk := [ab 57 e57 p2, ab 3 e3 p3, cl 24 [iv p0, iv p1, sv 0 p2.length ANY], cl 57 [iv o150.1, iv o150.2], cl 57 [iv o212.1, iv o212.2]]
def S33_28 (p3 : List Int) (p4 : Int) (p2 : List I2) (v82 : Int) : CAct := (st 142 [(1, sv 1 p3.length ANY), (2, iv p4), (3, pt 2 0), (7, iv (p3.length : Int)), (56, sv 0 p2.length ANY), (57, iv (p2.length : Int)), (58, iv v82)])
def S33_29 (p3 : List Int) (p4 : Int) (p2 : List I2) : CAct := (st 142 [(1, sv 1 p3.length ANY), (2, iv p4), (3, pt 2 0), (7, iv (p3.length : Int)), (56, sv 0 p2.length ANY), (57, iv (p2.length : Int)), (58, iv 0)])
def H33_30 (p2 : List I2) (p3 : List Int) (p0 p1 v82 : Int) : List Blk := [ab 57 e57 p2, ab 3 e3 p3, cl 24 [iv p0, iv p1, sv 0 p2.length ANY], .dead, .cells 3 (List.flatMap e3 p3), cl 3 [iv v82]]
def H33_31 (p2 : List I2) (p3 : List Int) (p0 p1 : Int) : List Blk := [ab 57 e57 p2, ab 3 e3 p3, cl 24 [iv p0, iv p1, sv 0 p2.length ANY], .dead, .cells 3 (List.flatMap e3 p3)]
def H33_32 (p2 : List I2) (p3 : List Int) (p0 p1 : Int) (o150 : I2) : List Blk := [ab 57 e57 p2, ab 3 e3 p3, cl 24 [iv p0, iv p1, sv 0 p2.length ANY], cl 57 [iv o150.1, iv o150.2], .dead]
def H33_33 (p2 : List I2) (p3 : List Int) (p0 p1 : Int) (o150 : I2) : List Blk := [ab 57 e57 p2, ab 3 e3 p3, cl 24 [iv p0, iv p1, sv 0 p2.length ANY], cl 57 [iv o150.1, iv o150.2]]
def H33_34 (p2 : List I2) (p3 : List Int) (p0 p1 : Int) : List Blk := [ab 57 e57 p2, ab 3 e3 p3, cl 24 [iv p0, iv p1, sv 0 p2.length ANY], .dead, .dead, .dead, .dead]
def H33_35 (p2 : List I2) (p3 : List Int) (p0 p1 : Int) : List Blk := [ab 57 e57 p2, ab 3 e3 p3, cl 24 [iv p0, iv p1, sv 0 p2.length ANY], cl 3 []]
def H33_36 (p2 : List I2) (p3 : List Int) (p0 p1 : Int) : List Blk := [ab 57 e57 p2, ab 3 e3 p3, cl 24 [iv p0, iv p1, sv 0 p2.length ANY], .dead]
def H33_37 (p2 : List I2) (p3 : List Int) (p0 p1 : Int) : List Blk := [ab 57 e57 p2, ab 3 e3 p3, cl 24 [iv p0, iv p1, sv 0 p2.length ANY]]
def S33_38 (p3 : List Int) (p4 : Int) : CAct := (st 142 [(1, sv 1 p3.length ANY), (2, iv p4), (3, pt 2 0), (7, iv (p3.length : Int)), (17, iv (p3.length : Int))])
def S33_39 (p3 : List Int) (p4 : Int) : CAct := (st 142 [(1, sv 1 p3.length ANY), (2, iv p4), (3, pt 2 0), (7, iv (p3.length : Int)), (54, .bool false)])
def H33_40 (p2 : List I2) (p3 : List Int) : List Blk := [ab 57 e57 p2, ab 3 e3 p3]
def V33 (b : Nat) (r : Bool) : Value := .bool r
def N33 (b : Nat) (r : Bool) : List Blk := []
def F33l1 (p0 p1 : Int) (p2 : List I2) (p3 : List Int) (p4 : Int) (o150 : I2) (v82 : Int) (v156 : Bool) (v157 : Int) : Option Bool :=
 if decide (v157 < (p3.length : Int)) then
  if (0 : Int) ≤ v157 ∧ v157 < (p3.length : Int) then
   some (List.getD p3 (Int.toNat v157) 0) >>= fun o168 =>
   (
    if v156 then
     some (true)
    else
     some (o168 == v82)
   : Option Bool) >>= fun m170 =>
   F33l1 p0 p1 p2 p3 p4 o150 v82 m170 (w64 (v157 + 1))
  else none
 else
  some v156
 partial_fixpoint
def F33l0 (rec33 : Int → Int → (List I2) → (List Int) → Int → Option Bool) (p0 p1 : Int) (p2 : List I2) (p3 : List Int) (p4 v82 : Int) : Option (Unit ⊕ Unit) :=
 if decide (v82 < (p2.length : Int)) then
  if (0 : Int) ≤ v82 ∧ v82 < (p2.length : Int) then
   some (List.getD p2 (Int.toNat v82) (0, 0)) >>= fun o150 =>
   F33l1 p0 p1 p2 p3 p4 o150 v82 false 0 >>= fun r172 =>
   if r172 then
    F33l0 rec33 p0 p1 p2 p3 p4 (w64 (v82 + 1))
   else
    (
     if decide ((p3.length : Int) > 0) then
      if (0 : Int) ≤ w64 ((p3.length : Int) - 1) ∧ w64 ((p3.length : Int) - 1) < (p3.length : Int) then
       some (List.getD p3 (Int.toNat (w64 ((p3.length : Int) - 1))) 0) >>= fun o209 =>
       if (0 : Int) ≤ o209 ∧ o209 < (p2.length : Int) then
        some (List.getD p2 (Int.toNat o209) (0, 0)) >>= fun o212 =>
        (
         if (Int.tmod (p3.length : Int) 2) == 1 then
          if p0 = 0 then none else
          if (Int.tmod o150.1 p0) != (Int.tmod o212.1 p0) then
           some (true)
          else
           if (Int.tmod (p3.length : Int) 2) == 0 then
            if p1 = 0 then none else
            some ((Int.tmod o150.1 p1) != (Int.tmod o212.1 p1))
           else
            some (false)
         else
          if (Int.tmod (p3.length : Int) 2) == 0 then
           if p1 = 0 then none else
           some ((Int.tmod o150.1 p1) != (Int.tmod o212.1 p1))
          else
           some (false)
        : Option Bool) >>= fun m221 =>
        if m221 then
         some (.inl ())
        else
         some (.inr ())
       else none
      else none
     else
      some (.inr ())
    : Option (Unit ⊕ Unit)) >>= fun m190 =>
    match m190 with
    | .inl o192 =>
     F33l0 rec33 p0 p1 p2 p3 p4 (w64 (v82 + 1))
    | .inr o194 =>
     (
      if (Int.tmod (p3.length : Int) 2) == 1 then
       some (w64 (0 - o150.2))
      else
       some o150.2
     : Option Int) >>= fun m199 =>
     if List.length p3 ≤ 1000000000 then
      rec33 p0 p1 p2 (p3 ++ ([v82])) (w64 (p4 + m199)) >>= fun r202 =>
      (
       if r202 then
        some (false)
       else
        some (true)
      : Option Bool) >>= fun m204 =>
      if m204 then
       some (.inl ())
      else
       F33l0 rec33 p0 p1 p2 p3 p4 (w64 (v82 + 1))
     else none
  else none
 else
  some (.inr ())
 partial_fixpoint
def F33b (rec33 : Int → Int → (List I2) → (List Int) → Int → Option Bool) (p0 p1 : Int) (p2 : List I2) (p3 : List Int) (p4 : Int) : Option Bool :=
 (
  if decide ((p3.length : Int) > 0) then
   if (Int.tmod (p3.length : Int) 2) == 0 then
    if (0 : Int) ≤ 0 ∧ 0 < (p3.length : Int) then
     some (List.getD p3 (Int.toNat 0) 0) >>= fun o4 =>
     if (0 : Int) ≤ o4 ∧ o4 < (p2.length : Int) then
      some (List.getD p2 (Int.toNat o4) (0, 0)) >>= fun o7 =>
      if p1 = 0 then none else
      if (0 : Int) ≤ w64 ((p3.length : Int) - 1) ∧ w64 ((p3.length : Int) - 1) < (p3.length : Int) then
       some (List.getD p3 (Int.toNat (w64 ((p3.length : Int) - 1))) 0) >>= fun o11 =>
       if (0 : Int) ≤ o11 ∧ o11 < (p2.length : Int) then
        some (List.getD p2 (Int.toNat o11) (0, 0)) >>= fun o14 =>
        if (Int.tmod o7.1 p1) == (Int.tmod o14.1 p1) then
         some (p4 != 0)
        else
         some (false)
       else none
      else none
     else none
    else none
   else
    some (false)
  else
   some (false)
 : Option Bool) >>= fun m17 =>
 if m17 then
  some false
 else
  F33l0 rec33 p0 p1 p2 p3 p4 0 >>= fun r223 =>
  match r223 with
  | .inl o225 =>
   some false
  | .inr o226 =>
   some true
def F33 : Nat → Int → Int → (List I2) → (List Int) → Int → Option Bool
 | 0 => fun _ _ _ _ _ => none
 | k + 1 => F33b (F33 k)
def P33l1 (p0 p1 : Int) (p2 : List I2) (p3 : List Int) (p4 : Int) (o150 : I2) (v82 : Int) (r : Bool) : Post := fun e a h => e = .exit 2 ∧ Wk Try.prog 2 2 a h (st 142 [(1, sv 1 p3.length ANY), (2, iv p4), (3, pt 2 0), (7, iv (p3.length : Int)), (8, iv v82), (9, pt 3 0), (10, .bool r), (56, sv 0 p2.length ANY), (57, iv (p2.length : Int)), (58, iv v82)]) (H33_33 p2 p3 p0 p1 o150)
theorem L33l1 (p0 p1 : Int) (p2 : List I2) (p3 : List Int) (p4 : Int) (o150 : I2) (v82 : Int) (v156 : Bool) (v157 : Int) (r : Bool) (hF : F33l1 p0 p1 p2 p3 p4 o150 v82 v156 v157 = some r) : TL Try.prog 2 2 c33.s2.s2.s2.s1.s2.bd.bd.s2.s2.s1.bd.s2.s2.s1.s2.bd.bd (S33_18 p3 p4 v82 v156 p2 v157) (H33_33 p2 p3 p0 p1 o150) (P33l1 p0 p1 p2 p3 p4 o150 v82 r) := by
 refine F33l1.partial_correctness p0 p1 p2 p3 p4 o150 v82 (motive := fun v156 v157 r => TL Try.prog 2 2 c33.s2.s2.s2.s1.s2.bd.bd.s2.s2.s1.bd.s2.s2.s1.s2.bd.bd (S33_18 p3 p4 v82 v156 p2 v157) (H33_33 p2 p3 p0 p1 o150) (P33l1 p0 p1 p2 p3 p4 o150 v82 r)) ?_ v156 v157 r hF
 clear hF r v156 v157
 intro again ih v156 v157 r hF
 refine TL.round (TS.sq (TS.rg (TI.ra 1 [1, 2, 3, 7, 8, 9, 10, 56, 57, 58, 63, 64, 65, 66] (st 142 [(1, sv 1 p3.length ANY), (2, iv p4), (3, pt 2 0), (7, iv (p3.length : Int)), (8, iv v82), (9, pt 3 0), (10, .bool v156), (56, sv 0 p2.length ANY), (57, iv (p2.length : Int)), (58, iv v82), (63, sv 1 p3.length ANY), (64, iv (p3.length : Int)), (65, iv v157), (66, .bool (decide (v157 < (p3.length : Int))))]) (TI.dn (NX.sq (TS.sq ?_))))))
 refine TS.cd (.tmp 66) (decide (v157 < (p3.length : Int))) (fun hc166 => ?_) (fun hc166 => ?_)
 · replace hF := of_pos hF hc166
   refine TS.sk (NX.sq (TS.sq (TS.bk 3 (TS.sq ?_))))
   obtain ⟨hg167, hF⟩ := of_guard hF
   obtain ⟨o168, h169, hF⟩ := of_do hF
   replace h169 := sj h169
   refine TS.rg (TI.o { val := .pointer (some ⟨1, 0 + (Int.toNat v157) * 1, none⟩) } (q_ixS 1 0 ((Int.toNat v157) * 1) (by kernel_rfl) hg167) [1, 2, 3, 7, 8, 9, 10, 56, 57, 58, 63, 64, 65, 67] [0, 1, 2, 3] (st 142 [(1, sv 1 p3.length ANY), (2, iv p4), (3, pt 2 0), (7, iv (p3.length : Int)), (8, iv v82), (9, pt 3 0), (10, .bool v156), (56, sv 0 p2.length ANY), (57, iv (p2.length : Int)), (58, iv v82), (63, sv 1 p3.length ANY), (64, iv (p3.length : Int)), (65, iv v157), (67, .pointer (some ⟨1, 0 + (Int.toNat v157) * 1, none⟩))]) (H33_33 p2 p3 p0 p1 o150) (TI.o { val := iv o168 } (q_n1a Try.prog (H33_33 p2 p3 p0 p1 o150) 3 1 (0 + (Int.toNat v157) * 1) p3 e3 1 3 (Int.toNat v157) 0 0 h169) [1, 2, 3, 7, 8, 9, 10, 56, 57, 58, 63, 64, 65, 68] [0, 1, 2, 3] (st 142 [(1, sv 1 p3.length ANY), (2, iv p4), (3, pt 2 0), (7, iv (p3.length : Int)), (8, iv v82), (9, pt 3 0), (10, .bool v156), (56, sv 0 p2.length ANY), (57, iv (p2.length : Int)), (58, iv v82), (63, sv 1 p3.length ANY), (64, iv (p3.length : Int)), (65, iv v157), (68, iv o168)]) (H33_33 p2 p3 p0 p1 o150) (TI.ra 1 [1, 2, 3, 7, 8, 9, 10, 12, 56, 57, 58, 63, 64, 65] (st 142 [(1, sv 1 p3.length ANY), (2, iv p4), (3, pt 2 0), (7, iv (p3.length : Int)), (8, iv v82), (9, pt 3 0), (10, .bool v156), (12, iv o168), (56, sv 0 p2.length ANY), (57, iv (p2.length : Int)), (58, iv v82), (63, sv 1 p3.length ANY), (64, iv (p3.length : Int)), (65, iv v157)]) (TI.dn (NX.sq ?_)))))
   obtain ⟨m170, hm171, hF⟩ := of_do hF
   have hK : NX Try.prog 2 2 [.bk 3, .sq c33.s2.s2.s2.s1.s2.bd.bd.s2.s2.s1.bd.s2.s2.s1.s2.bd.bd.s2.s2.s2] (Rd Try.prog 2 2 c33.s2.s2.s2.s1.s2.bd.bd.s2.s2.s1.bd.s2.s2.s1.s2.bd.bd (P33l1 p0 p1 p2 p3 p4 o150 v82 r)) .normal (st 142 [(1, sv 1 p3.length ANY), (2, iv p4), (3, pt 2 0), (7, iv (p3.length : Int)), (8, iv v82), (9, pt 3 0), (10, .bool m170), (56, sv 0 p2.length ANY), (57, iv (p2.length : Int)), (58, iv v82), (63, sv 1 p3.length ANY), (64, iv (p3.length : Int)), (65, iv v157)]) (H33_33 p2 p3 p0 p1 o150) := by
    refine NX.bk (NX.sq (TS.rg (TI.ra 2 [1, 2, 3, 7, 8, 9, 10, 56, 57, 58, 63, 64, 65] (S33_17 p3 p4 v82 m170 p2 v157) (TI.dn ?_))))
    exact Rd.again (a2 := (S33_17 p3 p4 v82 m170 p2 v157)) (h2 := (H33_33 p2 p3 p0 p1 o150)) (Wk.an [2, 3] (.ac (.ac (.lt (.fl (.fl (.sl .nil))) (.lt (.fl (.fl .nil)) (.nil _))))) [sv 1 p3.length ANY, iv p4, pt 2 0, iv (p3.length : Int), iv v82, pt 3 0, .bool m170, sv 0 p2.length ANY, iv (p2.length : Int), iv v82, sv 1 p3.length ANY, iv (p3.length : Int), iv (w64 (v157 + 1))] (.sl (.fl (.pp (.fl (.fl (.pp (.fl (.sl (.fl (.fl (.sl (.fl (.fl .nil)))))))))))))) (ih m170 (w64 (v157 + 1)) _ hF)
   cases v156 with
   | true =>
    replace hm171 := of_pos hm171 rfl
    have hm171 := sj hm171
    subst hm171
    exact TS.rg (TI.ra 7 [1, 2, 3, 7, 8, 9, 10, 56, 57, 58, 63, 64, 65] (st 142 [(1, sv 1 p3.length ANY), (2, iv p4), (3, pt 2 0), (7, iv (p3.length : Int)), (8, iv v82), (9, pt 3 0), (10, .bool true), (56, sv 0 p2.length ANY), (57, iv (p2.length : Int)), (58, iv v82), (63, sv 1 p3.length ANY), (64, iv (p3.length : Int)), (65, iv v157)]) (TI.dn hK))
   | false =>
    replace hm171 := of_neg hm171 rfl
    have hm171 := sj hm171
    subst hm171
    exact TS.rg (TI.ra 7 [1, 2, 3, 7, 8, 9, 10, 56, 57, 58, 63, 64, 65] (st 142 [(1, sv 1 p3.length ANY), (2, iv p4), (3, pt 2 0), (7, iv (p3.length : Int)), (8, iv v82), (9, pt 3 0), (10, .bool (o168 == v82)), (56, sv 0 p2.length ANY), (57, iv (p2.length : Int)), (58, iv v82), (63, sv 1 p3.length ANY), (64, iv (p3.length : Int)), (65, iv v157)]) (TI.dn hK))
 replace hF := of_neg hF hc166
 refine TS.ex 2 (NX.sqX ?_)
 have hF := sj hF
 subst hF
 exact Rd.out (e := .exit 2) (by intro h; cases h) (And.intro rfl (Wk.an [2, 3] (.ac (.ac (.lt (.fl (.fl (.sl .nil))) (.lt (.fl (.fl .nil)) (.nil _))))) [sv 1 p3.length ANY, iv p4, pt 2 0, iv (p3.length : Int), iv v82, pt 3 0, .bool v156, sv 0 p2.length ANY, iv (p2.length : Int), iv v82] (.sl (.fl (.pp (.fl (.fl (.pp (.fl (.sl (.fl (.fl .nil))))))))))))
def P33l0 (rec33 : Int → Int → (List I2) → (List Int) → Int → Option Bool) (p0 p1 : Int) (p2 : List I2) (p3 : List Int) (p4 : Int) (r : Unit ⊕ Unit) : Post := fun e a h => (match r with | .inl q0 => e = .ret ∧ Wk Try.prog 2 2 a h (st 142 [(6, .bool false)]) (H33_40 p2 p3) | .inr q0 => e = .exit 0 ∧ Wk Try.prog 2 2 a h (st 142 []) (H33_40 p2 p3))
theorem L33l0 (rec33 : Int → Int → (List I2) → (List Int) → Int → Option Bool) (p0 p1 : Int) (p2 : List I2) (p3 : List Int) (p4 : Int) (hrec33 : ∀ (p0 : Int) (p1 : Int) (p2 : List I2) (p3 : List Int) (p4 : Int) (r : Bool), rec33 p0 p1 p2 p3 p4 = some r → PureSim Try.prog 33 [ag [iv p0, iv p1, sv 0 p2.length ANY], sv 1 p3.length ANY, iv p4] (H33_40 p2 p3) (V33 2 r) (N33 2 r)) (v82 : Int) (r : Unit ⊕ Unit) (hF : F33l0 rec33 p0 p1 p2 p3 p4 v82 = some r) : TL Try.prog 2 2 c33.s2.s2.s2.s1.s2.bd.bd (S33_28 p3 p4 p2 v82) (H33_37 p2 p3 p0 p1) (P33l0 rec33 p0 p1 p2 p3 p4 r) := by
 refine F33l0.partial_correctness rec33 p0 p1 p2 p3 p4 (motive := fun v82 r => TL Try.prog 2 2 c33.s2.s2.s2.s1.s2.bd.bd (S33_28 p3 p4 p2 v82) (H33_37 p2 p3 p0 p1) (P33l0 rec33 p0 p1 p2 p3 p4 r)) ?_ v82 r hF
 clear hF r v82
 intro again ih v82 r hF
 refine TL.round (TS.sq (TS.rg (TI.ra 1 [1, 2, 3, 7, 56, 57, 58, 59] (st 142 [(1, sv 1 p3.length ANY), (2, iv p4), (3, pt 2 0), (7, iv (p3.length : Int)), (56, sv 0 p2.length ANY), (57, iv (p2.length : Int)), (58, iv v82), (59, .bool (decide (v82 < (p2.length : Int))))]) (TI.dn (NX.sq (TS.sq ?_))))))
 refine TS.cd (.tmp 59) (decide (v82 < (p2.length : Int))) (fun hc148 => ?_) (fun hc148 => ?_)
 · replace hF := of_pos hF hc148
   refine TS.sk (NX.sq (TS.sq (TS.bk 1 (TS.sq ?_))))
   obtain ⟨hg149, hF⟩ := of_guard hF
   obtain ⟨o150, h151, hF⟩ := of_do hF
   replace h151 := sj h151
   refine TS.rg (TI.ra 1 [1, 2, 3, 7, 56, 57, 58, 60] (st 142 [(1, sv 1 p3.length ANY), (2, iv p4), (3, pt 2 0), (7, iv (p3.length : Int)), (56, sv 0 p2.length ANY), (57, iv (p2.length : Int)), (58, iv v82), (60, iv v82)]) (TI.o { val := .pointer (some ⟨0, 0 + (Int.toNat v82) * 2, none⟩) } (q_ixS 0 0 ((Int.toNat v82) * 2) (by kernel_rfl) hg149) [1, 2, 3, 7, 56, 57, 58, 60, 61] [0, 1, 2] (st 142 [(1, sv 1 p3.length ANY), (2, iv p4), (3, pt 2 0), (7, iv (p3.length : Int)), (56, sv 0 p2.length ANY), (57, iv (p2.length : Int)), (58, iv v82), (60, iv v82), (61, .pointer (some ⟨0, 0 + (Int.toNat v82) * 2, none⟩))]) (H33_37 p2 p3 p0 p1) (TI.o { val := ag [iv o150.1, iv o150.2] } (q_nAa Try.prog (H33_37 p2 p3 p0 p1) 57 0 (0 + (Int.toNat v82) * 2) p2 e57 2 57 (Int.toNat v82) (0, 0) h151) [1, 2, 3, 7, 56, 57, 58, 60, 62] [0, 1, 2] (st 142 [(1, sv 1 p3.length ANY), (2, iv p4), (3, pt 2 0), (7, iv (p3.length : Int)), (56, sv 0 p2.length ANY), (57, iv (p2.length : Int)), (58, iv v82), (60, iv v82), (62, ag [iv o150.1, iv o150.2])]) (H33_37 p2 p3 p0 p1) (TI.rn 3 [1, 2, 3, 7, 8, 9, 56, 57, 58] [0, 1, 2, 3] (S33_24 p3 p4 v82 p2) (H33_33 p2 p3 p0 p1 o150) (TI.dn (NX.sq (TS.sq (TS.rg ?_))))))))
   refine TI.ra 1 [1, 2, 3, 7, 8, 9, 10, 56, 57, 58] (st 142 [(1, sv 1 p3.length ANY), (2, iv p4), (3, pt 2 0), (7, iv (p3.length : Int)), (8, iv v82), (9, pt 3 0), (10, .bool false), (56, sv 0 p2.length ANY), (57, iv (p2.length : Int)), (58, iv v82)]) (TI.dn (NX.sq (TS.sq (TS.sq (TS.rg (TI.ra 3 [1, 2, 3, 7, 8, 9, 10, 56, 57, 58, 63, 64, 65] (S33_19 p3 p4 v82 p2) (TI.dn (NX.sq ?_))))))))
   refine TS.bk 2 ?_
   obtain ⟨r172, h173, hF⟩ := of_do hF
   refine TS.lp (TL.weak (a2 := (S33_19 p3 p4 v82 p2)) (h2 := (H33_33 p2 p3 p0 p1 o150)) (Wk.an [2, 3] (.ac (.ac (.lt (.fl (.fl (.sl .nil))) (.lt (.fl (.fl .nil)) (.nil _))))) [sv 1 p3.length ANY, iv p4, pt 2 0, iv (p3.length : Int), iv v82, pt 3 0, .bool false, sv 0 p2.length ANY, iv (p2.length : Int), iv v82, sv 1 p3.length ANY, iv (p3.length : Int), iv 0] (.sl (.fl (.pp (.fl (.fl (.pp (.fl (.sl (.fl (.fl (.sl (.fl (.fl .nil)))))))))))))) (TL.post (L33l1 p0 p1 p2 p3 p4 o150 v82 false 0 r172 h173) ?_))
   rintro e a1 h1 hp
   obtain ⟨rfl, hw⟩ := hp
   refine ⟨(st 142 [(1, sv 1 p3.length ANY), (2, iv p4), (3, pt 2 0), (7, iv (p3.length : Int)), (8, iv v82), (9, pt 3 0), (10, .bool r172), (56, sv 0 p2.length ANY), (57, iv (p2.length : Int)), (58, iv v82)]), (H33_33 p2 p3 p0 p1 o150), (NX.bkX (NX.sq (TS.sq (TS.sq (TS.rg (TI.ra 1 [1, 2, 3, 7, 8, 9, 56, 57, 58, 76] (st 142 [(1, sv 1 p3.length ANY), (2, iv p4), (3, pt 2 0), (7, iv (p3.length : Int)), (8, iv v82), (9, pt 3 0), (56, sv 0 p2.length ANY), (57, iv (p2.length : Int)), (58, iv v82), (76, .bool r172)]) (TI.dn (NX.sq ?_)))))))), hw⟩
   cases r172 with
   | true =>
    replace hF := of_pos hF rfl
    refine TS.cdT (.tmp 76) (TS.ex 1 (NX.sqX (NX.bkX (NX.sq (TS.rg (TI.rn 2 [1, 2, 3, 7, 56, 57, 58] [0, 1, 2] (S33_26 p3 p4 p2 v82) (H33_36 p2 p3 p0 p1) (TI.dn ?_)))))))
    exact Rd.again (a2 := (S33_26 p3 p4 p2 v82)) (h2 := (H33_37 p2 p3 p0 p1)) (Wk.an [2] (.ac (.ac (.lt (.fl (.fl (.sl .nil))) (.nil _)))) [sv 1 p3.length ANY, iv p4, pt 2 0, iv (p3.length : Int), sv 0 p2.length ANY, iv (p2.length : Int), iv (w64 (v82 + 1))] (.sl (.fl (.pp (.fl (.sl (.fl (.fl .nil)))))))) (ih (w64 (v82 + 1)) _ hF)
   | false =>
    replace hF := of_neg hF rfl
    refine TS.cdF (.tmp 76) (TS.sk (NX.sq (TS.sq (TS.sq (TS.rg (TI.ra 2 [1, 2, 3, 7, 8, 9, 56, 57, 58, 78] (st 142 [(1, sv 1 p3.length ANY), (2, iv p4), (3, pt 2 0), (7, iv (p3.length : Int)), (8, iv v82), (9, pt 3 0), (56, sv 0 p2.length ANY), (57, iv (p2.length : Int)), (58, iv v82), (78, .bool (decide ((p3.length : Int) > 0)))]) (TI.dn (NX.sq ?_))))))))
    obtain ⟨m190, hm191, hF⟩ := of_do hF
    have hk193 : ∀ o192, m190 = .inl o192 → NX Try.prog 2 2 [.sq c33.s2.s2.s2.s1.s2.bd.bd.s2.s2.s2] (Rd Try.prog 2 2 c33.s2.s2.s2.s1.s2.bd.bd (P33l0 rec33 p0 p1 p2 p3 p4 r)) .normal (S33_28 p3 p4 p2 v82) (H33_37 p2 p3 p0 p1) := by
     intro o192 hq
     subst hq
     refine NX.sq (TS.rg (TI.ra 2 [1, 2, 3, 7, 56, 57, 58] (S33_26 p3 p4 p2 v82) (TI.dn ?_)))
     exact Rd.again (a2 := (S33_26 p3 p4 p2 v82)) (h2 := (H33_37 p2 p3 p0 p1)) (Wk.an [2] (.ac (.ac (.lt (.fl (.fl (.sl .nil))) (.nil _)))) [sv 1 p3.length ANY, iv p4, pt 2 0, iv (p3.length : Int), sv 0 p2.length ANY, iv (p2.length : Int), iv (w64 (v82 + 1))] (.sl (.fl (.pp (.fl (.sl (.fl (.fl .nil)))))))) (ih (w64 (v82 + 1)) _ hF)
    have hk195 : ∀ o194, m190 = .inr o194 → NX Try.prog 2 2 [.sq c33.s2.s2.s2.s1.s2.bd.bd.s2.s2.s1.bd.s2.s2.s2.s2.s2, .bk 1, .sq c33.s2.s2.s2.s1.s2.bd.bd.s2.s2.s2] (Rd Try.prog 2 2 c33.s2.s2.s2.s1.s2.bd.bd (P33l0 rec33 p0 p1 p2 p3 p4 r)) .normal (S33_24 p3 p4 v82 p2) (H33_33 p2 p3 p0 p1 o150) := by
     intro o194 hq
     subst hq
     refine NX.sq (TS.sq (TS.rg (TI.rn 3 [1, 2, 3, 7, 8, 14, 56, 57, 58] [0, 1, 2] (st 142 [(1, sv 1 p3.length ANY), (2, iv p4), (3, pt 2 0), (7, iv (p3.length : Int)), (8, iv v82), (14, iv o150.2), (56, sv 0 p2.length ANY), (57, iv (p2.length : Int)), (58, iv v82)]) (H33_36 p2 p3 p0 p1) (TI.dn (NX.sq (TS.sq (TS.sq (TS.rg ?_))))))))
     refine TI.ra 3 [1, 2, 3, 7, 8, 14, 56, 57, 58, 126] (st 142 [(1, sv 1 p3.length ANY), (2, iv p4), (3, pt 2 0), (7, iv (p3.length : Int)), (8, iv v82), (14, iv o150.2), (56, sv 0 p2.length ANY), (57, iv (p2.length : Int)), (58, iv v82), (126, .bool ((Int.tmod (p3.length : Int) 2) == 1))]) (TI.dn (NX.sq ?_))
     obtain ⟨m199, hm200, hF⟩ := of_do hF
     have hK : NX Try.prog 2 2 [.sq c33.s2.s2.s2.s1.s2.bd.bd.s2.s2.s1.bd.s2.s2.s2.s2.s2.s2.s2, .bk 1, .sq c33.s2.s2.s2.s1.s2.bd.bd.s2.s2.s2] (Rd Try.prog 2 2 c33.s2.s2.s2.s1.s2.bd.bd (P33l0 rec33 p0 p1 p2 p3 p4 r)) .normal (st 142 [(1, sv 1 p3.length ANY), (2, iv p4), (3, pt 2 0), (7, iv (p3.length : Int)), (8, iv v82), (14, iv m199), (56, sv 0 p2.length ANY), (57, iv (p2.length : Int)), (58, iv v82)]) (H33_37 p2 p3 p0 p1) := by
      refine NX.sq (TS.sq ?_)
      obtain ⟨hg201, hF⟩ := of_guard hF
      obtain ⟨r202, h203, hF⟩ := of_do hF
      obtain ⟨m204, hm205, hF⟩ := of_do hF
      have hK : NX Try.prog 2 2 [.sq c33.s2.s2.s2.s1.s2.bd.bd.s2.s2.s1.bd.s2.s2.s2.s2.s2.s2.s2.s2, .bk 1, .sq c33.s2.s2.s2.s1.s2.bd.bd.s2.s2.s2] (Rd Try.prog 2 2 c33.s2.s2.s2.s1.s2.bd.bd (P33l0 rec33 p0 p1 p2 p3 p4 r)) .normal (st 142 [(1, sv 1 p3.length ANY), (2, iv p4), (3, pt 2 0), (7, iv (p3.length : Int)), (56, sv 0 p2.length ANY), (57, iv (p2.length : Int)), (58, iv v82), (140, .bool m204)]) (H33_34 p2 p3 p0 p1) := by
       refine NX.sq ?_
       cases m204 with
       | true =>
        replace hF := of_pos hF rfl
        refine TS.cdT (.tmp 140) (TS.sq (TS.rg (TI.rn 1 [6] [0, 1] (st 142 [(6, .bool false)]) [ab 57 e57 p2, ab 3 e3 p3, .dead, .dead, .dead, .dead, .dead] (TI.dn (NX.sq (TS.rt (NX.bkR (NX.sqR ?_))))))))
        have hF := sj hF
        subst hF
        exact Rd.out (e := .ret) (by intro h; cases h) (And.intro rfl (Wk.an [] (.ac (.ac (.nil _))) [.bool false] (.fl .nil)))
       | false =>
        replace hF := of_neg hF rfl
        refine TS.cdF (.tmp 140) (TS.sk (NX.bk (NX.sq (TS.rg (TI.ra 2 [1, 2, 3, 7, 56, 57, 58] (S33_26 p3 p4 p2 v82) (TI.dn ?_))))))
        exact Rd.again (a2 := (S33_26 p3 p4 p2 v82)) (h2 := (H33_37 p2 p3 p0 p1)) (Wk.an [2] (.ac (.ac (.lt (.fl (.fl (.sl .nil))) (.nil _)))) [sv 1 p3.length ANY, iv p4, pt 2 0, iv (p3.length : Int), sv 0 p2.length ANY, iv (p2.length : Int), iv (w64 (v82 + 1))] (.sl (.fl (.pp (.fl (.sl (.fl (.fl .nil)))))))) (ih (w64 (v82 + 1)) _ hF)
      cases r202 with
      | true =>
       replace hm205 := of_pos hm205 rfl
       have hm205 := sj hm205
       subst hm205
       have hT : ∀ e ∈ ([⟨33, [ag [iv p0, iv p1, sv 0 p2.length ANY], ownV 6 (List.length (p3 ++ ([v82]))), iv (w64 (p4 + m199))], (H33_25 p2 p3 p0 p1 v82), .bool true, []⟩] : List Entry), PureSim Try.prog e.g e.args e.h e.v e.new := by
        intro e he
        simp only [List.mem_cons, List.not_mem_nil, or_false] at he
        rcases he with rfl
        exact (PureSim.ren (hc := [ab 57 e57 p2, accB 3 (List.length (p3 ++ ([v82]))) (List.flatMap e3 (p3 ++ ([v82])))]) (fun i => List.getD [(0, 0), (6, 0)] i (0, 0)) (hrec33 _ _ _ _ _ _ h203) (.ac (.cons (At.accU (by kernel_rfl) rfl (fun _ => rfl)) (.nil _))) (.cons (Rn.agg' (.fl (.fl (.cons (Rn.any _ _ _ _ _ _ (nl rfl) rfl rfl (by decide)) .nil)))) (.cons (Rn.ownA (i' := 6) (nl rfl) rfl (by simp only [List.length_set])) (.fl .nil))) (.flat (by kernel_rfl)) newflat_nil)
       refine TS.draw' (id := 20) (b := true) (ops := c33.s2.s2.s2.s1.s2.bd.bd.s2.s2.s1.bd.s2.s2.s2.s2.s2.s2.s2.s1.rops) (fin := (qs (S33_9 p3 p4 v82 m199 p2 p0 p1) (H33_25 p2 p3 p0 p1 v82) [(6, 6, 7), (5, 5, 6), (3, 4, 5), (1, 3, 4)] [(6, 4), (3, 3)])) (fin2 := (qs (S33_9 p3 p4 v82 m199 p2 p0 p1) (H33_25 p2 p3 p0 p1 v82) [(6, 6, 7), (5, 5, 6), (3, 4, 5), (1, 3, 4)] [(6, 4), (3, 3)])) (a1 := (S33_5 p3 p4 v82 m199 p2 p0 p1)) (h1 := (H33_25 p2 p3 p0 p1 v82)) (a2 := (st 142 [(1, sv 1 p3.length ANY), (2, iv p4), (3, pt 2 0), (7, iv (p3.length : Int)), (56, sv 0 p2.length ANY), (57, iv (p2.length : Int)), (58, iv v82), (140, .bool false)])) (h2 := (H33_34 p2 p3 p0 p1)) [⟨33, [ag [iv p0, iv p1, sv 0 p2.length ANY], ownV 6 (List.length (p3 ++ ([v82]))), iv (w64 (p4 + m199))], (H33_25 p2 p3 p0 p1 v82), .bool true, []⟩] hT mixed (by kernel_rfl) rfl 10 (by kernel_rfl) [(6, 4), (3, 3)] ?_ rfl (.inr ⟨?_, (by kernel_rfl)⟩) ?_ [1, 2, 3, 7, 56, 57, 58, 140] [0, 1, 2] (by kernel_rfl) ?_
       · refine QI.run (s1 := (qs (S33_16 p3 p4 v82 m199 p2 p0 p1) (H33_35 p2 p3 p0 p1) [(1, 3, 4)] [])) 3 (by kernel_rfl) (by kernel_rfl) ?_
         refine QI.op (q := { val := ownV 4 p3.length, new := [.cells 3 (List.flatMap e3 p3)], upd := some (3, .dead) }) (s1 := (qs (S33_13 p3 p4 v82 m199 p2 p0 p1) (H33_31 p2 p3 p0 p1) [(3, 4, 5), (1, 3, 4)] [(3, 3)])) (by decide) (q_appL (P := Try.prog) (base := 2) (hp := (H33_35 p2 p3 p0 p1)) (n := 4) (s := 1) (enc := e3) (ts := #[30, 30]) (e := 3) (bytes := 8) (z := iv 0) (y := sv 1 p3.length ANY) (ys := p3) (b := 3) (t := 3) (by kernel_rfl) (by kernel_rfl) (by decide) (by kernel_rfl) (by kernel_rfl) (by kernel_rfl) (by kernel_rfl) (by kernel_rfl) (by kernel_rfl) (arg_win (e := 3) (off := 0) (L := p3) (ys := p3) win_all (holds_acc (hp := (H33_35 p2 p3 p0 p1)) (b := 1) (T := 3) (enc := e3) (L := p3) (by kernel_rfl)) (fun _ => rfl) (by kernel_rfl)) (by first | omega | (simp only [List.length_append, List.length_cons, List.length_nil]; omega))) (by kernel_rfl) (QI.run (s1 := (qs (S33_12 p3 p4 v82 m199 p2 p0 p1) (H33_30 p2 p3 p0 p1 v82) [(5, 5, 6), (3, 4, 5), (1, 3, 4)] [(3, 3)])) 2 (by kernel_rfl) (by kernel_rfl) ?_)
         exact QI.op (q := { val := ownV 6 (List.length (p3 ++ ([v82]))), new := [.cells 3 (List.flatMap e3 (p3 ++ ([v82])))], upd := some (4, .dead) }) (s1 := (qs (S33_10 p3 p4 v82 m199 p2 p0 p1) (H33_25 p2 p3 p0 p1 v82) [(6, 6, 7), (5, 5, 6), (3, 4, 5), (1, 3, 4)] [(6, 4), (3, 3)])) (by decide) (q_appO (P := Try.prog) (base := 2) (hp := (H33_30 p2 p3 p0 p1 v82)) (n := 6) (s := 1) (enc := e3) (ts := #[30, 30]) (e := 3) (bytes := 8) (z := iv 0) (y := sv 5 1 1) (ys := [v82]) (b := 4) (l := p3) (by kernel_rfl) (by kernel_rfl) (by decide) (by kernel_rfl) (by kernel_rfl) (by kernel_rfl) (by kernel_rfl) (by kernel_rfl) (by kernel_rfl) (cells_ok (fun _ => rfl)) (fun _ => rfl) (by first | omega | (simp only [List.length_append, List.length_cons, List.length_nil]; omega))) (by kernel_rfl) (QI.run (s1 := (qs (S33_9 p3 p4 v82 m199 p2 p0 p1) (H33_25 p2 p3 p0 p1 v82) [(6, 6, 7), (5, 5, 6), (3, 4, 5), (1, 3, 4)] [(6, 4), (3, 3)])) 3 (by kernel_rfl) (by kernel_rfl) (QI.done (by kernel_rfl)))
       · refine QI.run (s1 := (qs (S33_16 p3 p4 v82 m199 p2 p0 p1) (H33_35 p2 p3 p0 p1) [(1, 3, 4)] [])) 3 (by kernel_rfl) (by kernel_rfl) ?_
         refine QI.op (q := { val := ownV 4 p3.length, new := [.cells 3 (List.flatMap e3 p3)], upd := some (3, .dead) }) (s1 := (qs (S33_13 p3 p4 v82 m199 p2 p0 p1) (H33_31 p2 p3 p0 p1) [(3, 4, 5), (1, 3, 4)] [(3, 3)])) (by decide) (q_appL (P := Try.prog) (base := 2) (hp := (H33_35 p2 p3 p0 p1)) (n := 4) (s := 1) (enc := e3) (ts := #[30, 30]) (e := 3) (bytes := 8) (z := iv 0) (y := sv 1 p3.length ANY) (ys := p3) (b := 3) (t := 3) (by kernel_rfl) (by kernel_rfl) (by decide) (by kernel_rfl) (by kernel_rfl) (by kernel_rfl) (by kernel_rfl) (by kernel_rfl) (by kernel_rfl) (arg_win (e := 3) (off := 0) (L := p3) (ys := p3) win_all (holds_acc (hp := (H33_35 p2 p3 p0 p1)) (b := 1) (T := 3) (enc := e3) (L := p3) (by kernel_rfl)) (fun _ => rfl) (by kernel_rfl)) (by first | omega | (simp only [List.length_append, List.length_cons, List.length_nil]; omega))) (by kernel_rfl) (QI.run (s1 := (qs (S33_12 p3 p4 v82 m199 p2 p0 p1) (H33_30 p2 p3 p0 p1 v82) [(5, 5, 6), (3, 4, 5), (1, 3, 4)] [(3, 3)])) 2 (by kernel_rfl) (by kernel_rfl) ?_)
         exact QI.op (q := { val := ownV 6 (List.length (p3 ++ ([v82]))), new := [.cells 3 (List.flatMap e3 (p3 ++ ([v82])))], upd := some (4, .dead) }) (s1 := (qs (S33_10 p3 p4 v82 m199 p2 p0 p1) (H33_25 p2 p3 p0 p1 v82) [(6, 6, 7), (5, 5, 6), (3, 4, 5), (1, 3, 4)] [(6, 4), (3, 3)])) (by decide) (q_appO (P := Try.prog) (base := 2) (hp := (H33_30 p2 p3 p0 p1 v82)) (n := 6) (s := 1) (enc := e3) (ts := #[30, 30]) (e := 3) (bytes := 8) (z := iv 0) (y := sv 5 1 1) (ys := [v82]) (b := 4) (l := p3) (by kernel_rfl) (by kernel_rfl) (by decide) (by kernel_rfl) (by kernel_rfl) (by kernel_rfl) (by kernel_rfl) (by kernel_rfl) (by kernel_rfl) (cells_ok (fun _ => rfl)) (fun _ => rfl) (by first | omega | (simp only [List.length_append, List.length_cons, List.length_nil]; omega))) (by kernel_rfl) (QI.run (s1 := (qs (S33_9 p3 p4 v82 m199 p2 p0 p1) (H33_25 p2 p3 p0 p1 v82) [(6, 6, 7), (5, 5, 6), (3, 4, 5), (1, 3, 4)] [(6, 4), (3, 3)])) 3 (by kernel_rfl) (by kernel_rfl) (QI.done (by kernel_rfl)))
       · exact SI.op (q := { val := .bool true, new := [] }) (a2 := (st 142 [(1, sv 1 p3.length ANY), (2, iv p4), (3, pt 2 0), (7, iv (p3.length : Int)), (8, iv v82), (14, iv m199), (56, sv 0 p2.length ANY), (57, iv (p2.length : Int)), (58, iv v82), (129, ag [iv p0, iv p1, sv 0 p2.length ANY]), (130, sv 3 0 0), (131, sv 1 p3.length ANY), (132, ownV 4 p3.length), (133, iv v82), (134, sv 5 1 1), (135, ownV 6 (List.length (p3 ++ ([v82])))), (136, iv p4), (137, iv m199), (138, iv (w64 (p4 + m199))), (139, .bool true)])) (h2 := (H33_25 p2 p3 p0 p1 v82)) (by kernel_rfl) (qOf_call (g := 33) (args := [ag [iv p0, iv p1, sv 0 p2.length ANY], ownV 6 (List.length (p3 ++ ([v82]))), iv (w64 (p4 + m199))]) (by kernel_rfl) lookC_hit) (by kernel_rfl) (by kernel_rfl) (SI.run (a2 := (S33_5 p3 p4 v82 m199 p2 p0 p1)) (h2 := (H33_25 p2 p3 p0 p1 v82)) 1 (by kernel_rfl) (SI.done (by kernel_rfl)))
       exact hK
      | false =>
       replace hm205 := of_neg hm205 rfl
       have hm205 := sj hm205
       subst hm205
       have hT : ∀ e ∈ ([⟨33, [ag [iv p0, iv p1, sv 0 p2.length ANY], ownV 6 (List.length (p3 ++ ([v82]))), iv (w64 (p4 + m199))], (H33_25 p2 p3 p0 p1 v82), .bool false, []⟩] : List Entry), PureSim Try.prog e.g e.args e.h e.v e.new := by
        intro e he
        simp only [List.mem_cons, List.not_mem_nil, or_false] at he
        rcases he with rfl
        exact (PureSim.ren (hc := [ab 57 e57 p2, accB 3 (List.length (p3 ++ ([v82]))) (List.flatMap e3 (p3 ++ ([v82])))]) (fun i => List.getD [(0, 0), (6, 0)] i (0, 0)) (hrec33 _ _ _ _ _ _ h203) (.ac (.cons (At.accU (by kernel_rfl) rfl (fun _ => rfl)) (.nil _))) (.cons (Rn.agg' (.fl (.fl (.cons (Rn.any _ _ _ _ _ _ (nl rfl) rfl rfl (by decide)) .nil)))) (.cons (Rn.ownA (i' := 6) (nl rfl) rfl (by simp only [List.length_set])) (.fl .nil))) (.flat (by kernel_rfl)) newflat_nil)
       refine TS.draw' (id := 20) (b := true) (ops := c33.s2.s2.s2.s1.s2.bd.bd.s2.s2.s1.bd.s2.s2.s2.s2.s2.s2.s2.s1.rops) (fin := (qs (S33_9 p3 p4 v82 m199 p2 p0 p1) (H33_25 p2 p3 p0 p1 v82) [(6, 6, 7), (5, 5, 6), (3, 4, 5), (1, 3, 4)] [(6, 4), (3, 3)])) (fin2 := (qs (S33_9 p3 p4 v82 m199 p2 p0 p1) (H33_25 p2 p3 p0 p1 v82) [(6, 6, 7), (5, 5, 6), (3, 4, 5), (1, 3, 4)] [(6, 4), (3, 3)])) (a1 := (S33_6 p3 p4 v82 m199 p2 p0 p1)) (h1 := (H33_25 p2 p3 p0 p1 v82)) (a2 := (st 142 [(1, sv 1 p3.length ANY), (2, iv p4), (3, pt 2 0), (7, iv (p3.length : Int)), (56, sv 0 p2.length ANY), (57, iv (p2.length : Int)), (58, iv v82), (140, .bool true)])) (h2 := (H33_34 p2 p3 p0 p1)) [⟨33, [ag [iv p0, iv p1, sv 0 p2.length ANY], ownV 6 (List.length (p3 ++ ([v82]))), iv (w64 (p4 + m199))], (H33_25 p2 p3 p0 p1 v82), .bool false, []⟩] hT mixed (by kernel_rfl) rfl 10 (by kernel_rfl) [(6, 4), (3, 3)] ?_ rfl (.inr ⟨?_, (by kernel_rfl)⟩) ?_ [1, 2, 3, 7, 56, 57, 58, 140] [0, 1, 2] (by kernel_rfl) ?_
       · refine QI.run (s1 := (qs (S33_16 p3 p4 v82 m199 p2 p0 p1) (H33_35 p2 p3 p0 p1) [(1, 3, 4)] [])) 3 (by kernel_rfl) (by kernel_rfl) ?_
         refine QI.op (q := { val := ownV 4 p3.length, new := [.cells 3 (List.flatMap e3 p3)], upd := some (3, .dead) }) (s1 := (qs (S33_13 p3 p4 v82 m199 p2 p0 p1) (H33_31 p2 p3 p0 p1) [(3, 4, 5), (1, 3, 4)] [(3, 3)])) (by decide) (q_appL (P := Try.prog) (base := 2) (hp := (H33_35 p2 p3 p0 p1)) (n := 4) (s := 1) (enc := e3) (ts := #[30, 30]) (e := 3) (bytes := 8) (z := iv 0) (y := sv 1 p3.length ANY) (ys := p3) (b := 3) (t := 3) (by kernel_rfl) (by kernel_rfl) (by decide) (by kernel_rfl) (by kernel_rfl) (by kernel_rfl) (by kernel_rfl) (by kernel_rfl) (by kernel_rfl) (arg_win (e := 3) (off := 0) (L := p3) (ys := p3) win_all (holds_acc (hp := (H33_35 p2 p3 p0 p1)) (b := 1) (T := 3) (enc := e3) (L := p3) (by kernel_rfl)) (fun _ => rfl) (by kernel_rfl)) (by first | omega | (simp only [List.length_append, List.length_cons, List.length_nil]; omega))) (by kernel_rfl) (QI.run (s1 := (qs (S33_12 p3 p4 v82 m199 p2 p0 p1) (H33_30 p2 p3 p0 p1 v82) [(5, 5, 6), (3, 4, 5), (1, 3, 4)] [(3, 3)])) 2 (by kernel_rfl) (by kernel_rfl) ?_)
         exact QI.op (q := { val := ownV 6 (List.length (p3 ++ ([v82]))), new := [.cells 3 (List.flatMap e3 (p3 ++ ([v82])))], upd := some (4, .dead) }) (s1 := (qs (S33_10 p3 p4 v82 m199 p2 p0 p1) (H33_25 p2 p3 p0 p1 v82) [(6, 6, 7), (5, 5, 6), (3, 4, 5), (1, 3, 4)] [(6, 4), (3, 3)])) (by decide) (q_appO (P := Try.prog) (base := 2) (hp := (H33_30 p2 p3 p0 p1 v82)) (n := 6) (s := 1) (enc := e3) (ts := #[30, 30]) (e := 3) (bytes := 8) (z := iv 0) (y := sv 5 1 1) (ys := [v82]) (b := 4) (l := p3) (by kernel_rfl) (by kernel_rfl) (by decide) (by kernel_rfl) (by kernel_rfl) (by kernel_rfl) (by kernel_rfl) (by kernel_rfl) (by kernel_rfl) (cells_ok (fun _ => rfl)) (fun _ => rfl) (by first | omega | (simp only [List.length_append, List.length_cons, List.length_nil]; omega))) (by kernel_rfl) (QI.run (s1 := (qs (S33_9 p3 p4 v82 m199 p2 p0 p1) (H33_25 p2 p3 p0 p1 v82) [(6, 6, 7), (5, 5, 6), (3, 4, 5), (1, 3, 4)] [(6, 4), (3, 3)])) 3 (by kernel_rfl) (by kernel_rfl) (QI.done (by kernel_rfl)))
       · refine QI.run (s1 := (qs (S33_16 p3 p4 v82 m199 p2 p0 p1) (H33_35 p2 p3 p0 p1) [(1, 3, 4)] [])) 3 (by kernel_rfl) (by kernel_rfl) ?_
         refine QI.op (q := { val := ownV 4 p3.length, new := [.cells 3 (List.flatMap e3 p3)], upd := some (3, .dead) }) (s1 := (qs (S33_13 p3 p4 v82 m199 p2 p0 p1) (H33_31 p2 p3 p0 p1) [(3, 4, 5), (1, 3, 4)] [(3, 3)])) (by decide) (q_appL (P := Try.prog) (base := 2) (hp := (H33_35 p2 p3 p0 p1)) (n := 4) (s := 1) (enc := e3) (ts := #[30, 30]) (e := 3) (bytes := 8) (z := iv 0) (y := sv 1 p3.length ANY) (ys := p3) (b := 3) (t := 3) (by kernel_rfl) (by kernel_rfl) (by decide) (by kernel_rfl) (by kernel_rfl) (by kernel_rfl) (by kernel_rfl) (by kernel_rfl) (by kernel_rfl) (arg_win (e := 3) (off := 0) (L := p3) (ys := p3) win_all (holds_acc (hp := (H33_35 p2 p3 p0 p1)) (b := 1) (T := 3) (enc := e3) (L := p3) (by kernel_rfl)) (fun _ => rfl) (by kernel_rfl)) (by first | omega | (simp only [List.length_append, List.length_cons, List.length_nil]; omega))) (by kernel_rfl) (QI.run (s1 := (qs (S33_12 p3 p4 v82 m199 p2 p0 p1) (H33_30 p2 p3 p0 p1 v82) [(5, 5, 6), (3, 4, 5), (1, 3, 4)] [(3, 3)])) 2 (by kernel_rfl) (by kernel_rfl) ?_)
         exact QI.op (q := { val := ownV 6 (List.length (p3 ++ ([v82]))), new := [.cells 3 (List.flatMap e3 (p3 ++ ([v82])))], upd := some (4, .dead) }) (s1 := (qs (S33_10 p3 p4 v82 m199 p2 p0 p1) (H33_25 p2 p3 p0 p1 v82) [(6, 6, 7), (5, 5, 6), (3, 4, 5), (1, 3, 4)] [(6, 4), (3, 3)])) (by decide) (q_appO (P := Try.prog) (base := 2) (hp := (H33_30 p2 p3 p0 p1 v82)) (n := 6) (s := 1) (enc := e3) (ts := #[30, 30]) (e := 3) (bytes := 8) (z := iv 0) (y := sv 5 1 1) (ys := [v82]) (b := 4) (l := p3) (by kernel_rfl) (by kernel_rfl) (by decide) (by kernel_rfl) (by kernel_rfl) (by kernel_rfl) (by kernel_rfl) (by kernel_rfl) (by kernel_rfl) (cells_ok (fun _ => rfl)) (fun _ => rfl) (by first | omega | (simp only [List.length_append, List.length_cons, List.length_nil]; omega))) (by kernel_rfl) (QI.run (s1 := (qs (S33_9 p3 p4 v82 m199 p2 p0 p1) (H33_25 p2 p3 p0 p1 v82) [(6, 6, 7), (5, 5, 6), (3, 4, 5), (1, 3, 4)] [(6, 4), (3, 3)])) 3 (by kernel_rfl) (by kernel_rfl) (QI.done (by kernel_rfl)))
       · exact SI.op (q := { val := .bool false, new := [] }) (a2 := (st 142 [(1, sv 1 p3.length ANY), (2, iv p4), (3, pt 2 0), (7, iv (p3.length : Int)), (8, iv v82), (14, iv m199), (56, sv 0 p2.length ANY), (57, iv (p2.length : Int)), (58, iv v82), (129, ag [iv p0, iv p1, sv 0 p2.length ANY]), (130, sv 3 0 0), (131, sv 1 p3.length ANY), (132, ownV 4 p3.length), (133, iv v82), (134, sv 5 1 1), (135, ownV 6 (List.length (p3 ++ ([v82])))), (136, iv p4), (137, iv m199), (138, iv (w64 (p4 + m199))), (139, .bool false)])) (h2 := (H33_25 p2 p3 p0 p1 v82)) (by kernel_rfl) (qOf_call (g := 33) (args := [ag [iv p0, iv p1, sv 0 p2.length ANY], ownV 6 (List.length (p3 ++ ([v82]))), iv (w64 (p4 + m199))]) (by kernel_rfl) lookC_hit) (by kernel_rfl) (by kernel_rfl) (SI.run (a2 := (S33_6 p3 p4 v82 m199 p2 p0 p1)) (h2 := (H33_25 p2 p3 p0 p1 v82)) 1 (by kernel_rfl) (SI.done (by kernel_rfl)))
       exact hK
     clear hF
     have hF := hm200
     clear hm200
     refine TS.start ?_
     refine TS.cd (.tmp 126) ((Int.tmod (p3.length : Int) 2) == 1) (fun hc206 => ?_) (fun hc206 => ?_)
     · replace hF := of_pos hF hc206
       refine TS.rg (TI.ra 3 [1, 2, 3, 7, 8, 14, 56, 57, 58] (st 142 [(1, sv 1 p3.length ANY), (2, iv p4), (3, pt 2 0), (7, iv (p3.length : Int)), (8, iv v82), (14, iv (w64 (0 - o150.2))), (56, sv 0 p2.length ANY), (57, iv (p2.length : Int)), (58, iv v82)]) (TI.dn ?_))
       have hF := sj hF
       subst hF
       exact TS.weak (by exact (Wk.an [2] (.ac (.ac (.lt (.fl (.fl (.sl .nil))) (.nil _)))) [sv 1 p3.length ANY, iv p4, pt 2 0, iv (p3.length : Int), iv v82, iv (w64 (0 - o150.2)), sv 0 p2.length ANY, iv (p2.length : Int), iv v82] (.sl (.fl (.pp (.fl (.fl (.fl (.sl (.fl (.fl .nil))))))))))) hK
     replace hF := of_neg hF hc206
     refine TS.sk ?_
     have hF := sj hF
     subst hF
     exact TS.weak (by exact (Wk.an [2] (.ac (.ac (.lt (.fl (.fl (.sl .nil))) (.nil _)))) [sv 1 p3.length ANY, iv p4, pt 2 0, iv (p3.length : Int), iv v82, iv o150.2, sv 0 p2.length ANY, iv (p2.length : Int), iv v82] (.sl (.fl (.pp (.fl (.fl (.fl (.sl (.fl (.fl .nil))))))))))) hK
    clear hF
    have hF := hm191
    clear hm191
    refine TS.start ?_
    refine TS.cd (.tmp 78) (decide ((p3.length : Int) > 0)) (fun hc207 => ?_) (fun hc207 => ?_)
    · replace hF := of_pos hF hc207
      refine TS.sq ?_
      obtain ⟨hg208, hF⟩ := of_guard hF
      obtain ⟨o209, h210, hF⟩ := of_do hF
      replace h210 := sj h210
      obtain ⟨hg211, hF⟩ := of_guard hF
      obtain ⟨o212, h213, hF⟩ := of_do hF
      replace h213 := sj h213
      refine TS.dp [] (fun e he => by cases he) mixed 10 [1, 2, 3, 7, 8, 9, 13, 56, 57, 58] [0, 1, 2, 3, 4] (st 142 [(1, sv 1 p3.length ANY), (2, iv p4), (3, pt 2 0), (7, iv (p3.length : Int)), (8, iv v82), (9, pt 3 0), (13, pt 4 0), (56, sv 0 p2.length ANY), (57, iv (p2.length : Int)), (58, iv v82)]) (H33_27 p2 p3 p0 p1 o150 o212) ?_ ?_
      · exact QJ.rn (qs (st 142 [(1, sv 1 p3.length ANY), (2, iv p4), (3, pt 2 0), (7, iv (p3.length : Int)), (8, iv v82), (9, pt 3 0), (56, sv 0 p2.length ANY), (57, iv (p2.length : Int)), (58, iv v82), (78, .bool (decide ((p3.length : Int) > 0))), (79, pt 2 2), (80, sv 0 p2.length ANY), (81, sv 1 p3.length ANY), (82, iv (p3.length : Int)), (83, iv (w64 ((p3.length : Int) - 1)))]) (H33_33 p2 p3 p0 p1 o150) [] []) 5 (QJ.o { val := .pointer (some ⟨1, 0 + (Int.toNat (w64 ((p3.length : Int) - 1))) * 1, none⟩) } (q_ixS 1 0 ((Int.toNat (w64 ((p3.length : Int) - 1))) * 1) (by kernel_rfl) hg208) (QJ.o { val := iv o209 } (q_n1a Try.prog (H33_33 p2 p3 p0 p1 o150) 3 1 (0 + (Int.toNat (w64 ((p3.length : Int) - 1))) * 1) p3 e3 1 3 (Int.toNat (w64 ((p3.length : Int) - 1))) 0 0 h210) (QJ.o { val := .pointer (some ⟨0, 0 + (Int.toNat o209) * 2, none⟩) } (q_ixS 0 0 ((Int.toNat o209) * 2) (by kernel_rfl) hg211) (QJ.o { val := ag [iv o212.1, iv o212.2] } (q_nAa Try.prog (H33_33 p2 p3 p0 p1 o150) 57 0 (0 + (Int.toNat o209) * 2) p2 e57 2 57 (Int.toNat o209) (0, 0) h213) (QJ.rn (qs (st 142 [(1, sv 1 p3.length ANY), (2, iv p4), (3, pt 2 0), (7, iv (p3.length : Int)), (8, iv v82), (9, pt 3 0), (13, pt 4 0), (56, sv 0 p2.length ANY), (57, iv (p2.length : Int)), (58, iv v82), (78, .bool (decide ((p3.length : Int) > 0))), (79, pt 2 2), (80, sv 0 p2.length ANY), (81, sv 1 p3.length ANY), (82, iv (p3.length : Int)), (83, iv (w64 ((p3.length : Int) - 1))), (84, .pointer (some ⟨1, 0 + (Int.toNat (w64 ((p3.length : Int) - 1))) * 1, none⟩)), (85, iv o209), (86, .pointer (some ⟨0, 0 + (Int.toNat o209) * 2, none⟩)), (87, ag [iv o212.1, iv o212.2])]) [ab 57 e57 p2, ab 3 e3 p3, cl 24 [iv p0, iv p1, sv 0 p2.length ANY], cl 57 [iv o150.1, iv o150.2], cl 57 [iv 0, iv 0]] [(9, 4, 5)] []) 1 (QJ.dn ⟨rfl, SJ.la⟩))))))
      refine TS.sq ?_
      obtain ⟨m221, hm222, hF⟩ := of_do hF
      have hK : NX Try.prog 2 2 [.sq c33.s2.s2.s2.s1.s2.bd.bd.s2.s2.s1.bd.s2.s2.s2.s2.s1.s2.th.s2.s2] (NX Try.prog 2 2 [.sq c33.s2.s2.s2.s1.s2.bd.bd.s2.s2.s1.bd.s2.s2.s2.s2.s2, .bk 1, .sq c33.s2.s2.s2.s1.s2.bd.bd.s2.s2.s2] (Rd Try.prog 2 2 c33.s2.s2.s2.s1.s2.bd.bd (P33l0 rec33 p0 p1 p2 p3 p4 r))) .normal (st 142 [(1, sv 1 p3.length ANY), (2, iv p4), (3, pt 2 0), (7, iv (p3.length : Int)), (8, iv v82), (9, pt 3 0), (56, sv 0 p2.length ANY), (57, iv (p2.length : Int)), (58, iv v82), (121, .bool m221)]) (H33_32 p2 p3 p0 p1 o150) := by
       refine NX.sq ?_
       cases m221 with
       | true =>
        replace hF := of_pos hF rfl
        refine TS.cdT (.tmp 121) (TS.ex 1 ?_)
        have hF := sj hF
        refine NX.nil (NX.sqX (NX.bkX ?_))
        exact TS.weak (by exact (Wk.an [2] (.ac (.ac (.lt (.fl (.fl (.sl .nil))) (.nil _)))) [sv 1 p3.length ANY, iv p4, pt 2 0, iv (p3.length : Int), sv 0 p2.length ANY, iv (p2.length : Int), iv v82] (.sl (.fl (.pp (.fl (.sl (.fl (.fl .nil))))))))) (hk193 _ hF.symm)
       | false =>
        replace hF := of_neg hF rfl
        refine TS.cdF (.tmp 121) (TS.sk ?_)
        have hF := sj hF
        exact TS.weak (by exact (Wk.an [2, 3] (.ac (.ac (.lt (.fl (.fl (.sl .nil))) (.lt (.fl (.fl .nil)) (.nil _))))) [sv 1 p3.length ANY, iv p4, pt 2 0, iv (p3.length : Int), iv v82, pt 3 0, sv 0 p2.length ANY, iv (p2.length : Int), iv v82] (.sl (.fl (.pp (.fl (.fl (.pp (.sl (.fl (.fl .nil))))))))))) (hk195 _ hF.symm)
      rcases Bool.eq_false_or_eq_true ((Int.tmod (p3.length : Int) 2) == 1) with hc214 | hc214
      · replace hm222 := of_pos hm222 hc214
        have hX := of_guardn hm222
        clear hm222
        obtain ⟨hg215, hm222⟩ := hX
        rcases Bool.eq_false_or_eq_true ((Int.tmod o150.1 p0) != (Int.tmod o212.1 p0)) with hc216 | hc216
        · replace hm222 := of_pos hm222 hc216
          have hm222 := sj hm222
          subst hm222
          refine TS.dp [] (fun e he => by cases he) mixed 31 [1, 2, 3, 7, 8, 9, 56, 57, 58, 121] [0, 1, 2, 3] (st 142 [(1, sv 1 p3.length ANY), (2, iv p4), (3, pt 2 0), (7, iv (p3.length : Int)), (8, iv v82), (9, pt 3 0), (56, sv 0 p2.length ANY), (57, iv (p2.length : Int)), (58, iv v82), (121, .bool true)]) (H33_32 p2 p3 p0 p1 o150) ?_ ?_
          · refine QJ.rn (qs (S33_20 p3 p4 v82 p2) (H33_27 p2 p3 p0 p1 o150 o212) [] []) 2 (QJ.o { val := .bool true } (q_conv (e := (Int.tmod (p3.length : Int) 2) == 1) (b := true) (by kernel_rfl) hc214) (QJ.rn (qs (S33_15 p3 p4 v82 p2 o150 p0) (H33_27 p2 p3 p0 p1 o150 o212) [] []) 5 (QJ.o { val := iv (Int.tmod o150.1 p0) } (q_int (P := Try.prog) (op := .rem) (ty := 3) (ox := (.tmp 93)) (oy := (.tmp 95)) (k := .i64) (k' := .i64) (y := o150.1) (z := p0) (by kernel_rfl) (rem_ok hg215)) (QJ.rn (qs (S33_11 p3 p4 v82 p2 o150 p0 o212) (H33_27 p2 p3 p0 p1 o150 o212) [] []) 4 (QJ.o { val := iv (Int.tmod o212.1 p0) } (q_int (P := Try.prog) (op := .rem) (ty := 3) (ox := (.tmp 98)) (oy := (.tmp 100)) (k := .i64) (k' := .i64) (y := o212.1) (z := p0) (by kernel_rfl) (rem_ok hg215)) (QJ.o { val := .bool true } (q_conv (e := (Int.tmod o150.1 p0) != (Int.tmod o212.1 p0)) (b := true) (by kernel_rfl) hc216) (QJ.rn (qs (st 142 [(1, sv 1 p3.length ANY), (2, iv p4), (3, pt 2 0), (7, iv (p3.length : Int)), (8, iv v82), (9, pt 3 0), (13, pt 4 0), (56, sv 0 p2.length ANY), (57, iv (p2.length : Int)), (58, iv v82), (88, iv (p3.length : Int)), (89, iv (Int.tmod (p3.length : Int) 2)), (90, .bool true), (91, .bool true), (92, pt 3 0), (93, iv o150.1), (94, pt 2 0), (95, iv p0), (96, iv (Int.tmod o150.1 p0)), (97, pt 4 0), (98, iv o212.1), (99, pt 2 0), (100, iv p0), (101, iv (Int.tmod o212.1 p0)), (102, .bool true), (103, .bool true), (104, .bool true), (105, undef), (106, undef), (107, undef), (108, undef), (109, undef), (110, undef), (111, undef), (112, undef), (113, undef), (114, undef), (115, undef), (116, undef), (117, undef), (118, undef)]) (H33_27 p2 p3 p0 p1 o150 o212) [] []) 16 (QJ.dn ⟨rfl, ?_⟩))))))))
            exact SJ.la
          exact hK
        replace hm222 := of_neg hm222 hc216
        rcases Bool.eq_false_or_eq_true ((Int.tmod (p3.length : Int) 2) == 0) with hc217 | hc217
        · replace hm222 := of_pos hm222 hc217
          have hX := of_guardn hm222
          clear hm222
          obtain ⟨hg218, hm222⟩ := hX
          have hm222 := sj hm222
          subst hm222
          refine TS.dp [] (fun e he => by cases he) mixed 31 [1, 2, 3, 7, 8, 9, 56, 57, 58, 121] [0, 1, 2, 3] (S33_21 p3 p4 v82 p2 o150 p1 o212) (H33_32 p2 p3 p0 p1 o150) ?_ ?_
          · refine QJ.rn (qs (S33_20 p3 p4 v82 p2) (H33_27 p2 p3 p0 p1 o150 o212) [] []) 2 (QJ.o { val := .bool true } (q_conv (e := (Int.tmod (p3.length : Int) 2) == 1) (b := true) (by kernel_rfl) hc214) (QJ.rn (qs (S33_15 p3 p4 v82 p2 o150 p0) (H33_27 p2 p3 p0 p1 o150 o212) [] []) 5 (QJ.o { val := iv (Int.tmod o150.1 p0) } (q_int (P := Try.prog) (op := .rem) (ty := 3) (ox := (.tmp 93)) (oy := (.tmp 95)) (k := .i64) (k' := .i64) (y := o150.1) (z := p0) (by kernel_rfl) (rem_ok hg215)) (QJ.rn (qs (S33_11 p3 p4 v82 p2 o150 p0 o212) (H33_27 p2 p3 p0 p1 o150 o212) [] []) 4 (QJ.o { val := iv (Int.tmod o212.1 p0) } (q_int (P := Try.prog) (op := .rem) (ty := 3) (ox := (.tmp 98)) (oy := (.tmp 100)) (k := .i64) (k' := .i64) (y := o212.1) (z := p0) (by kernel_rfl) (rem_ok hg215)) (QJ.o { val := .bool false } (q_conv (e := (Int.tmod o150.1 p0) != (Int.tmod o212.1 p0)) (b := false) (by kernel_rfl) hc216) (QJ.rn (qs (S33_3 p3 p4 v82 p2 o150 p0 o212) (H33_27 p2 p3 p0 p1 o150 o212) [] []) 4 (QJ.o { val := .bool true } (q_conv (e := (Int.tmod (p3.length : Int) 2) == 0) (b := true) (by kernel_rfl) hc217) ?_))))))))
            exact QJ.rn (qs (st 142 [(1, sv 1 p3.length ANY), (2, iv p4), (3, pt 2 0), (7, iv (p3.length : Int)), (8, iv v82), (9, pt 3 0), (13, pt 4 0), (56, sv 0 p2.length ANY), (57, iv (p2.length : Int)), (58, iv v82), (88, iv (p3.length : Int)), (89, iv (Int.tmod (p3.length : Int) 2)), (90, .bool true), (91, .bool true), (92, pt 3 0), (93, iv o150.1), (94, pt 2 0), (95, iv p0), (96, iv (Int.tmod o150.1 p0)), (97, pt 4 0), (98, iv o212.1), (99, pt 2 0), (100, iv p0), (101, iv (Int.tmod o212.1 p0)), (102, .bool false), (103, .bool false), (104, .bool false), (105, iv (p3.length : Int)), (106, iv (Int.tmod (p3.length : Int) 2)), (107, .bool true), (108, .bool true), (109, pt 3 0), (110, iv o150.1), (111, pt 2 1), (112, iv p1)]) (H33_27 p2 p3 p0 p1 o150 o212) [] []) 5 (QJ.o { val := iv (Int.tmod o150.1 p1) } (q_int (P := Try.prog) (op := .rem) (ty := 3) (ox := (.tmp 110)) (oy := (.tmp 112)) (k := .i64) (k' := .i64) (y := o150.1) (z := p1) (by kernel_rfl) (rem_ok hg218)) (QJ.rn (qs (st 142 [(1, sv 1 p3.length ANY), (2, iv p4), (3, pt 2 0), (7, iv (p3.length : Int)), (8, iv v82), (9, pt 3 0), (13, pt 4 0), (56, sv 0 p2.length ANY), (57, iv (p2.length : Int)), (58, iv v82), (88, iv (p3.length : Int)), (89, iv (Int.tmod (p3.length : Int) 2)), (90, .bool true), (91, .bool true), (92, pt 3 0), (93, iv o150.1), (94, pt 2 0), (95, iv p0), (96, iv (Int.tmod o150.1 p0)), (97, pt 4 0), (98, iv o212.1), (99, pt 2 0), (100, iv p0), (101, iv (Int.tmod o212.1 p0)), (102, .bool false), (103, .bool false), (104, .bool false), (105, iv (p3.length : Int)), (106, iv (Int.tmod (p3.length : Int) 2)), (107, .bool true), (108, .bool true), (109, pt 3 0), (110, iv o150.1), (111, pt 2 1), (112, iv p1), (113, iv (Int.tmod o150.1 p1)), (114, pt 4 0), (115, iv o212.1), (116, pt 2 1), (117, iv p1)]) (H33_27 p2 p3 p0 p1 o150 o212) [] []) 4 (QJ.o { val := iv (Int.tmod o212.1 p1) } (q_int (P := Try.prog) (op := .rem) (ty := 3) (ox := (.tmp 115)) (oy := (.tmp 117)) (k := .i64) (k' := .i64) (y := o212.1) (z := p1) (by kernel_rfl) (rem_ok hg218)) (QJ.dn ⟨rfl, SJ.la⟩))))
          exact hK
        replace hm222 := of_neg hm222 hc217
        have hm222 := sj hm222
        subst hm222
        refine TS.dp [] (fun e he => by cases he) mixed 31 [1, 2, 3, 7, 8, 9, 56, 57, 58, 121] [0, 1, 2, 3] (S33_22 p3 p4 v82 p2) (H33_32 p2 p3 p0 p1 o150) ?_ ?_
        · refine QJ.rn (qs (S33_20 p3 p4 v82 p2) (H33_27 p2 p3 p0 p1 o150 o212) [] []) 2 (QJ.o { val := .bool true } (q_conv (e := (Int.tmod (p3.length : Int) 2) == 1) (b := true) (by kernel_rfl) hc214) (QJ.rn (qs (S33_15 p3 p4 v82 p2 o150 p0) (H33_27 p2 p3 p0 p1 o150 o212) [] []) 5 (QJ.o { val := iv (Int.tmod o150.1 p0) } (q_int (P := Try.prog) (op := .rem) (ty := 3) (ox := (.tmp 93)) (oy := (.tmp 95)) (k := .i64) (k' := .i64) (y := o150.1) (z := p0) (by kernel_rfl) (rem_ok hg215)) (QJ.rn (qs (S33_11 p3 p4 v82 p2 o150 p0 o212) (H33_27 p2 p3 p0 p1 o150 o212) [] []) 4 (QJ.o { val := iv (Int.tmod o212.1 p0) } (q_int (P := Try.prog) (op := .rem) (ty := 3) (ox := (.tmp 98)) (oy := (.tmp 100)) (k := .i64) (k' := .i64) (y := o212.1) (z := p0) (by kernel_rfl) (rem_ok hg215)) (QJ.o { val := .bool false } (q_conv (e := (Int.tmod o150.1 p0) != (Int.tmod o212.1 p0)) (b := false) (by kernel_rfl) hc216) (QJ.rn (qs (S33_3 p3 p4 v82 p2 o150 p0 o212) (H33_27 p2 p3 p0 p1 o150 o212) [] []) 4 (QJ.o { val := .bool false } (q_conv (e := (Int.tmod (p3.length : Int) 2) == 0) (b := false) (by kernel_rfl) hc217) ?_))))))))
          exact QJ.rn (qs (st 142 [(1, sv 1 p3.length ANY), (2, iv p4), (3, pt 2 0), (7, iv (p3.length : Int)), (8, iv v82), (9, pt 3 0), (13, pt 4 0), (56, sv 0 p2.length ANY), (57, iv (p2.length : Int)), (58, iv v82), (88, iv (p3.length : Int)), (89, iv (Int.tmod (p3.length : Int) 2)), (90, .bool true), (91, .bool true), (92, pt 3 0), (93, iv o150.1), (94, pt 2 0), (95, iv p0), (96, iv (Int.tmod o150.1 p0)), (97, pt 4 0), (98, iv o212.1), (99, pt 2 0), (100, iv p0), (101, iv (Int.tmod o212.1 p0)), (102, .bool false), (103, .bool false), (104, .bool false), (105, iv (p3.length : Int)), (106, iv (Int.tmod (p3.length : Int) 2)), (107, .bool false), (108, .bool false), (109, undef), (110, undef), (111, undef), (112, undef), (113, undef), (114, undef), (115, undef), (116, undef), (117, undef), (118, undef)]) (H33_27 p2 p3 p0 p1 o150 o212) [] []) 11 (QJ.dn ⟨rfl, SJ.la⟩)
        exact hK
      replace hm222 := of_neg hm222 hc214
      rcases Bool.eq_false_or_eq_true ((Int.tmod (p3.length : Int) 2) == 0) with hc219 | hc219
      · replace hm222 := of_pos hm222 hc219
        have hX := of_guardn hm222
        clear hm222
        obtain ⟨hg220, hm222⟩ := hX
        have hm222 := sj hm222
        subst hm222
        refine TS.dp [] (fun e he => by cases he) mixed 31 [1, 2, 3, 7, 8, 9, 56, 57, 58, 121] [0, 1, 2, 3] (S33_21 p3 p4 v82 p2 o150 p1 o212) (H33_32 p2 p3 p0 p1 o150) ?_ ?_
        · refine QJ.rn (qs (S33_20 p3 p4 v82 p2) (H33_27 p2 p3 p0 p1 o150 o212) [] []) 2 (QJ.o { val := .bool false } (q_conv (e := (Int.tmod (p3.length : Int) 2) == 1) (b := false) (by kernel_rfl) hc214) (QJ.rn (qs (S33_7 p3 p4 v82 p2) (H33_27 p2 p3 p0 p1 o150 o212) [] []) 16 (QJ.o { val := .bool true } (q_conv (e := (Int.tmod (p3.length : Int) 2) == 0) (b := true) (by kernel_rfl) hc219) (QJ.rn (qs (st 142 [(1, sv 1 p3.length ANY), (2, iv p4), (3, pt 2 0), (7, iv (p3.length : Int)), (8, iv v82), (9, pt 3 0), (13, pt 4 0), (56, sv 0 p2.length ANY), (57, iv (p2.length : Int)), (58, iv v82), (88, iv (p3.length : Int)), (89, iv (Int.tmod (p3.length : Int) 2)), (90, .bool false), (91, .bool false), (92, undef), (93, undef), (94, undef), (95, undef), (96, undef), (97, undef), (98, undef), (99, undef), (100, undef), (101, undef), (102, undef), (103, .bool false), (104, .bool false), (105, iv (p3.length : Int)), (106, iv (Int.tmod (p3.length : Int) 2)), (107, .bool true), (108, .bool true), (109, pt 3 0), (110, iv o150.1), (111, pt 2 1), (112, iv p1)]) (H33_27 p2 p3 p0 p1 o150 o212) [] []) 5 (QJ.o { val := iv (Int.tmod o150.1 p1) } (q_int (P := Try.prog) (op := .rem) (ty := 3) (ox := (.tmp 110)) (oy := (.tmp 112)) (k := .i64) (k' := .i64) (y := o150.1) (z := p1) (by kernel_rfl) (rem_ok hg220)) (QJ.rn (qs (st 142 [(1, sv 1 p3.length ANY), (2, iv p4), (3, pt 2 0), (7, iv (p3.length : Int)), (8, iv v82), (9, pt 3 0), (13, pt 4 0), (56, sv 0 p2.length ANY), (57, iv (p2.length : Int)), (58, iv v82), (88, iv (p3.length : Int)), (89, iv (Int.tmod (p3.length : Int) 2)), (90, .bool false), (91, .bool false), (92, undef), (93, undef), (94, undef), (95, undef), (96, undef), (97, undef), (98, undef), (99, undef), (100, undef), (101, undef), (102, undef), (103, .bool false), (104, .bool false), (105, iv (p3.length : Int)), (106, iv (Int.tmod (p3.length : Int) 2)), (107, .bool true), (108, .bool true), (109, pt 3 0), (110, iv o150.1), (111, pt 2 1), (112, iv p1), (113, iv (Int.tmod o150.1 p1)), (114, pt 4 0), (115, iv o212.1), (116, pt 2 1), (117, iv p1)]) (H33_27 p2 p3 p0 p1 o150 o212) [] []) 4 (QJ.o { val := iv (Int.tmod o212.1 p1) } (q_int (P := Try.prog) (op := .rem) (ty := 3) (ox := (.tmp 115)) (oy := (.tmp 117)) (k := .i64) (k' := .i64) (y := o212.1) (z := p1) (by kernel_rfl) (rem_ok hg220)) (QJ.dn ⟨rfl, ?_⟩))))))))
          exact SJ.la
        exact hK
      replace hm222 := of_neg hm222 hc219
      have hm222 := sj hm222
      subst hm222
      refine TS.dp [] (fun e he => by cases he) mixed 31 [1, 2, 3, 7, 8, 9, 56, 57, 58, 121] [0, 1, 2, 3] (S33_22 p3 p4 v82 p2) (H33_32 p2 p3 p0 p1 o150) ?_ ?_
      · exact QJ.rn (qs (S33_20 p3 p4 v82 p2) (H33_27 p2 p3 p0 p1 o150 o212) [] []) 2 (QJ.o { val := .bool false } (q_conv (e := (Int.tmod (p3.length : Int) 2) == 1) (b := false) (by kernel_rfl) hc214) (QJ.rn (qs (S33_7 p3 p4 v82 p2) (H33_27 p2 p3 p0 p1 o150 o212) [] []) 16 (QJ.o { val := .bool false } (q_conv (e := (Int.tmod (p3.length : Int) 2) == 0) (b := false) (by kernel_rfl) hc219) (QJ.rn (qs (st 142 [(1, sv 1 p3.length ANY), (2, iv p4), (3, pt 2 0), (7, iv (p3.length : Int)), (8, iv v82), (9, pt 3 0), (13, pt 4 0), (56, sv 0 p2.length ANY), (57, iv (p2.length : Int)), (58, iv v82), (88, iv (p3.length : Int)), (89, iv (Int.tmod (p3.length : Int) 2)), (90, .bool false), (91, .bool false), (92, undef), (93, undef), (94, undef), (95, undef), (96, undef), (97, undef), (98, undef), (99, undef), (100, undef), (101, undef), (102, undef), (103, .bool false), (104, .bool false), (105, iv (p3.length : Int)), (106, iv (Int.tmod (p3.length : Int) 2)), (107, .bool false), (108, .bool false), (109, undef), (110, undef), (111, undef), (112, undef), (113, undef), (114, undef), (115, undef), (116, undef), (117, undef), (118, undef)]) (H33_27 p2 p3 p0 p1 o150 o212) [] []) 11 (QJ.dn ⟨rfl, SJ.la⟩)))))
      exact hK
    replace hF := of_neg hF hc207
    refine TS.sk ?_
    have hF := sj hF
    exact TS.weak (by exact (Wk.an [2, 3] (.ac (.ac (.lt (.fl (.fl (.sl .nil))) (.lt (.fl (.fl .nil)) (.nil _))))) [sv 1 p3.length ANY, iv p4, pt 2 0, iv (p3.length : Int), iv v82, pt 3 0, sv 0 p2.length ANY, iv (p2.length : Int), iv v82] (.sl (.fl (.pp (.fl (.fl (.pp (.sl (.fl (.fl .nil))))))))))) (hk195 _ hF.symm)
 replace hF := of_neg hF hc148
 refine TS.ex 0 (NX.sqX ?_)
 have hF := sj hF
 subst hF
 exact Rd.out (e := .exit 0) (by intro h; cases h) (And.intro rfl (Wk.an [] (.ac (.ac (.nil _))) [] .nil))
theorem B33 (rec33 : Int → Int → (List I2) → (List Int) → Int → Option Bool) (hrec33 : ∀ (p0 : Int) (p1 : Int) (p2 : List I2) (p3 : List Int) (p4 : Int) (r : Bool), rec33 p0 p1 p2 p3 p4 = some r → PureSim Try.prog 33 [ag [iv p0, iv p1, sv 0 p2.length ANY], sv 1 p3.length ANY, iv p4] (H33_40 p2 p3) (V33 2 r) (N33 2 r)) (p0 p1 : Int) (p2 : List I2) (p3 : List Int) (p4 : Int) (r : Bool) (hF : F33b rec33 p0 p1 p2 p3 p4 = some r) : TS Try.prog 2 2 c33 (st 142 [(0, ag [iv p0, iv p1, sv 0 p2.length ANY]), (1, sv 1 p3.length ANY), (2, iv p4)]) (H33_40 p2 p3) (NX Try.prog 2 2 [] (FinP Try.prog Try.f33 2 (V33 2 r) (N33 2 r))) := by
 unfold F33b at hF
 refine TS.sq (TS.rg (TI.rn 2 [1, 2, 3] [0, 1, 2] (st 142 [(1, sv 1 p3.length ANY), (2, iv p4), (3, pt 2 0)]) (H33_37 p2 p3 p0 p1) (TI.dn (NX.sq (TS.sq (TS.rg (TI.ra 3 [1, 2, 3, 7] (st 142 [(1, sv 1 p3.length ANY), (2, iv p4), (3, pt 2 0), (7, iv (p3.length : Int))]) (TI.dn ?_))))))))
 refine NX.sq (TS.sq (TS.sq ?_))
 obtain ⟨m17, hm227, hF⟩ := of_do hF
 have hK : NX Try.prog 2 2 [.sq c33.s2.s2.s1.s2, .sq c33.s2.s2.s2] (FinP Try.prog Try.f33 2 (V33 2 r) (N33 2 r)) .normal (st 142 [(1, sv 1 p3.length ANY), (2, iv p4), (3, pt 2 0), (7, iv (p3.length : Int)), (54, .bool m17)]) (H33_37 p2 p3 p0 p1) := by
  refine NX.sq ?_
  cases m17 with
  | true =>
   replace hF := of_pos hF rfl
   refine TS.cdT (.tmp 54) (TS.sq (TS.rg (TI.rn 1 [6] [0, 1] (st 142 [(6, .bool false)]) [ab 57 e57 p2, ab 3 e3 p3, .dead] (TI.dn (NX.sq (TS.rt (NX.sqR ?_)))))))
   have hF := sj hF
   subst hF
   exact ⟨.inr rfl, rfl, .bool false, by kernel_rfl, WkV.flat0 (by kernel_rfl) (nl rfl)⟩
  | false =>
   replace hF := of_neg hF rfl
   refine TS.cdF (.tmp 54) (TS.sk (NX.sq (TS.sq (TS.sq (TS.rg (TI.ra 4 [1, 2, 3, 7, 56, 57, 58] (S33_29 p3 p4 p2) (TI.dn (NX.sq ?_))))))))
   refine TS.bk 0 ?_
   obtain ⟨r223, h224, hF⟩ := of_do hF
   refine TS.lp (TL.weak (a2 := (S33_29 p3 p4 p2)) (h2 := (H33_37 p2 p3 p0 p1)) (Wk.an [2] (.ac (.ac (.lt (.fl (.fl (.sl .nil))) (.nil _)))) [sv 1 p3.length ANY, iv p4, pt 2 0, iv (p3.length : Int), sv 0 p2.length ANY, iv (p2.length : Int), iv 0] (.sl (.fl (.pp (.fl (.sl (.fl (.fl .nil)))))))) (TL.post (L33l0 rec33 p0 p1 p2 p3 p4 hrec33 0 r223 h224) ?_))
   rintro e a1 h1 hp
   rcases r223 with o225 | o226
   · skip
     obtain ⟨rfl, hw⟩ := hp
     refine ⟨(st 142 [(6, .bool false)]), (H33_40 p2 p3), (NX.bkR (NX.sqR ?_)), hw⟩
     have hF := sj hF
     subst hF
     exact ⟨.inr rfl, rfl, .bool false, by kernel_rfl, WkV.flat0 (by kernel_rfl) (nl rfl)⟩
   skip
   obtain ⟨rfl, hw⟩ := hp
   refine ⟨(st 142 []), (H33_40 p2 p3), (NX.bkX (NX.sq (TS.sq (TS.rg (TI.ra 1 [6] (st 142 [(6, .bool true)]) (TI.dn (NX.sq (TS.rt ?_)))))))), hw⟩
   have hF := sj hF
   subst hF
   exact ⟨.inr rfl, rfl, .bool true, by kernel_rfl, WkV.flat0 (by kernel_rfl) (nl rfl)⟩
 rcases Bool.eq_false_or_eq_true (decide ((p3.length : Int) > 0)) with hc1 | hc1
 · replace hm227 := of_pos hm227 hc1
   rcases Bool.eq_false_or_eq_true ((Int.tmod (p3.length : Int) 2) == 0) with hc2 | hc2
   · replace hm227 := of_pos hm227 hc2
     have hX := of_guard hm227
     clear hm227
     obtain ⟨hg3, hm227⟩ := hX
     have hX := of_do hm227
     clear hm227
     obtain ⟨o4, h5, hm227⟩ := hX
     replace h5 := sj h5
     have hX := of_guard hm227
     clear hm227
     obtain ⟨hg6, hm227⟩ := hX
     have hX := of_do hm227
     clear hm227
     obtain ⟨o7, h8, hm227⟩ := hX
     replace h8 := sj h8
     have hX := of_guardn hm227
     clear hm227
     obtain ⟨hg9, hm227⟩ := hX
     have hX := of_guard hm227
     clear hm227
     obtain ⟨hg10, hm227⟩ := hX
     have hX := of_do hm227
     clear hm227
     obtain ⟨o11, h12, hm227⟩ := hX
     replace h12 := sj h12
     have hX := of_guard hm227
     clear hm227
     obtain ⟨hg13, hm227⟩ := hX
     have hX := of_do hm227
     clear hm227
     obtain ⟨o14, h15, hm227⟩ := hX
     replace h15 := sj h15
     rcases Bool.eq_false_or_eq_true ((Int.tmod o7.1 p1) == (Int.tmod o14.1 p1)) with hc16 | hc16
     · replace hm227 := of_pos hm227 hc16
       have hm227 := sj hm227
       subst hm227
       refine TS.dp [] (fun e he => by cases he) mixed 32 [1, 2, 3, 7, 54] [0, 1, 2] (st 142 [(1, sv 1 p3.length ANY), (2, iv p4), (3, pt 2 0), (7, iv (p3.length : Int)), (54, .bool (p4 != 0))]) (H33_37 p2 p3 p0 p1) ?_ ?_
       · refine QJ.rn (qs (S33_38 p3 p4) (H33_37 p2 p3 p0 p1) [] []) 1 (QJ.o { val := .bool true } (q_conv (e := decide ((p3.length : Int) > 0)) (b := true) (by kernel_rfl) hc1) (QJ.rn (qs (S33_23 p3 p4) (H33_37 p2 p3 p0 p1) [] []) 3 (QJ.o { val := .bool true } (q_conv (e := (Int.tmod (p3.length : Int) 2) == 0) (b := true) (by kernel_rfl) hc2) (QJ.rn (qs (S33_14 p3 p4 p2) (H33_37 p2 p3 p0 p1) [] []) 5 (QJ.o { val := .pointer (some ⟨1, 0 + (Int.toNat 0) * 1, none⟩) } (q_ixS 1 0 ((Int.toNat 0) * 1) (by kernel_rfl) hg3) (QJ.o { val := iv o4 } (q_n1a Try.prog (H33_37 p2 p3 p0 p1) 3 1 (0 + (Int.toNat 0) * 1) p3 e3 1 3 (Int.toNat 0) 0 0 h5) (QJ.o { val := .pointer (some ⟨0, 0 + (Int.toNat o4) * 2, none⟩) } (q_ixS 0 0 ((Int.toNat o4) * 2) (by kernel_rfl) hg6) (QJ.rn (qs (S33_8 p3 p4 p2 o4) (H33_37 p2 p3 p0 p1) [] []) 1 ?_))))))))
         refine QJ.o { val := iv o7.1 } (q_n1a Try.prog (H33_37 p2 p3 p0 p1) 3 0 (0 + (Int.toNat o4) * 2) p2 e57 2 57 (Int.toNat o4) 0 (0, 0) h8) (QJ.rn (qs (S33_4 p3 p4 p2 o4 o7 p1) (H33_37 p2 p3 p0 p1) [] []) 2 (QJ.o { val := iv (Int.tmod o7.1 p1) } (q_int (P := Try.prog) (op := .rem) (ty := 3) (ox := (.tmp 32)) (oy := (.tmp 34)) (k := .i64) (k' := .i64) (y := o7.1) (z := p1) (by kernel_rfl) (rem_ok hg9)) (QJ.rn (qs (S33_2 p3 p4 p2 o4 o7 p1) (H33_37 p2 p3 p0 p1) [] []) 5 (QJ.o { val := .pointer (some ⟨1, 0 + (Int.toNat (w64 ((p3.length : Int) - 1))) * 1, none⟩) } (q_ixS 1 0 ((Int.toNat (w64 ((p3.length : Int) - 1))) * 1) (by kernel_rfl) hg10) (QJ.o { val := iv o11 } (q_n1a Try.prog (H33_37 p2 p3 p0 p1) 3 1 (0 + (Int.toNat (w64 ((p3.length : Int) - 1))) * 1) p3 e3 1 3 (Int.toNat (w64 ((p3.length : Int) - 1))) 0 0 h12) (QJ.o { val := .pointer (some ⟨0, 0 + (Int.toNat o11) * 2, none⟩) } (q_ixS 0 0 ((Int.toNat o11) * 2) (by kernel_rfl) hg13) (QJ.rn (qs (S33_1 p3 p4 p2 o4 o7 p1 o11) (H33_37 p2 p3 p0 p1) [] []) 1 (QJ.o { val := iv o14.1 } (q_n1a Try.prog (H33_37 p2 p3 p0 p1) 3 0 (0 + (Int.toNat o11) * 2) p2 e57 2 57 (Int.toNat o11) 0 (0, 0) h15) ?_))))))))
         exact QJ.rn (qs (S33_0 p3 p4 p2 o4 o7 p1 o11 o14) (H33_37 p2 p3 p0 p1) [] []) 2 (QJ.o { val := iv (Int.tmod o14.1 p1) } (q_int (P := Try.prog) (op := .rem) (ty := 3) (ox := (.tmp 45)) (oy := (.tmp 47)) (k := .i64) (k' := .i64) (y := o14.1) (z := p1) (by kernel_rfl) (rem_ok hg9)) (QJ.dn ⟨rfl, (SJ.o { val := .bool true } (q_conv (e := (Int.tmod o7.1 p1) == (Int.tmod o14.1 p1)) (b := true) (by kernel_rfl) hc16) SJ.la)⟩))
       exact hK
     replace hm227 := of_neg hm227 hc16
     have hm227 := sj hm227
     subst hm227
     refine TS.dp [] (fun e he => by cases he) mixed 32 [1, 2, 3, 7, 54] [0, 1, 2] (S33_39 p3 p4) (H33_37 p2 p3 p0 p1) ?_ ?_
     · refine QJ.rn (qs (S33_38 p3 p4) (H33_37 p2 p3 p0 p1) [] []) 1 (QJ.o { val := .bool true } (q_conv (e := decide ((p3.length : Int) > 0)) (b := true) (by kernel_rfl) hc1) (QJ.rn (qs (S33_23 p3 p4) (H33_37 p2 p3 p0 p1) [] []) 3 (QJ.o { val := .bool true } (q_conv (e := (Int.tmod (p3.length : Int) 2) == 0) (b := true) (by kernel_rfl) hc2) (QJ.rn (qs (S33_14 p3 p4 p2) (H33_37 p2 p3 p0 p1) [] []) 5 (QJ.o { val := .pointer (some ⟨1, 0 + (Int.toNat 0) * 1, none⟩) } (q_ixS 1 0 ((Int.toNat 0) * 1) (by kernel_rfl) hg3) (QJ.o { val := iv o4 } (q_n1a Try.prog (H33_37 p2 p3 p0 p1) 3 1 (0 + (Int.toNat 0) * 1) p3 e3 1 3 (Int.toNat 0) 0 0 h5) (QJ.o { val := .pointer (some ⟨0, 0 + (Int.toNat o4) * 2, none⟩) } (q_ixS 0 0 ((Int.toNat o4) * 2) (by kernel_rfl) hg6) (QJ.rn (qs (S33_8 p3 p4 p2 o4) (H33_37 p2 p3 p0 p1) [] []) 1 ?_))))))))
       refine QJ.o { val := iv o7.1 } (q_n1a Try.prog (H33_37 p2 p3 p0 p1) 3 0 (0 + (Int.toNat o4) * 2) p2 e57 2 57 (Int.toNat o4) 0 (0, 0) h8) (QJ.rn (qs (S33_4 p3 p4 p2 o4 o7 p1) (H33_37 p2 p3 p0 p1) [] []) 2 (QJ.o { val := iv (Int.tmod o7.1 p1) } (q_int (P := Try.prog) (op := .rem) (ty := 3) (ox := (.tmp 32)) (oy := (.tmp 34)) (k := .i64) (k' := .i64) (y := o7.1) (z := p1) (by kernel_rfl) (rem_ok hg9)) (QJ.rn (qs (S33_2 p3 p4 p2 o4 o7 p1) (H33_37 p2 p3 p0 p1) [] []) 5 (QJ.o { val := .pointer (some ⟨1, 0 + (Int.toNat (w64 ((p3.length : Int) - 1))) * 1, none⟩) } (q_ixS 1 0 ((Int.toNat (w64 ((p3.length : Int) - 1))) * 1) (by kernel_rfl) hg10) (QJ.o { val := iv o11 } (q_n1a Try.prog (H33_37 p2 p3 p0 p1) 3 1 (0 + (Int.toNat (w64 ((p3.length : Int) - 1))) * 1) p3 e3 1 3 (Int.toNat (w64 ((p3.length : Int) - 1))) 0 0 h12) (QJ.o { val := .pointer (some ⟨0, 0 + (Int.toNat o11) * 2, none⟩) } (q_ixS 0 0 ((Int.toNat o11) * 2) (by kernel_rfl) hg13) (QJ.rn (qs (S33_1 p3 p4 p2 o4 o7 p1 o11) (H33_37 p2 p3 p0 p1) [] []) 1 (QJ.o { val := iv o14.1 } (q_n1a Try.prog (H33_37 p2 p3 p0 p1) 3 0 (0 + (Int.toNat o11) * 2) p2 e57 2 57 (Int.toNat o11) 0 (0, 0) h15) ?_))))))))
       exact QJ.rn (qs (S33_0 p3 p4 p2 o4 o7 p1 o11 o14) (H33_37 p2 p3 p0 p1) [] []) 2 (QJ.o { val := iv (Int.tmod o14.1 p1) } (q_int (P := Try.prog) (op := .rem) (ty := 3) (ox := (.tmp 45)) (oy := (.tmp 47)) (k := .i64) (k' := .i64) (y := o14.1) (z := p1) (by kernel_rfl) (rem_ok hg9)) (QJ.dn ⟨rfl, (SJ.o { val := .bool false } (q_conv (e := (Int.tmod o7.1 p1) == (Int.tmod o14.1 p1)) (b := false) (by kernel_rfl) hc16) SJ.la)⟩))
     exact hK
   replace hm227 := of_neg hm227 hc2
   have hm227 := sj hm227
   subst hm227
   refine TS.dp [] (fun e he => by cases he) mixed 32 [1, 2, 3, 7, 54] [0, 1, 2] (S33_39 p3 p4) (H33_37 p2 p3 p0 p1) ?_ ?_
   · exact QJ.rn (qs (S33_38 p3 p4) (H33_37 p2 p3 p0 p1) [] []) 1 (QJ.o { val := .bool true } (q_conv (e := decide ((p3.length : Int) > 0)) (b := true) (by kernel_rfl) hc1) (QJ.rn (qs (S33_23 p3 p4) (H33_37 p2 p3 p0 p1) [] []) 3 (QJ.o { val := .bool false } (q_conv (e := (Int.tmod (p3.length : Int) 2) == 0) (b := false) (by kernel_rfl) hc2) (QJ.rn (qs (st 142 [(1, sv 1 p3.length ANY), (2, iv p4), (3, pt 2 0), (7, iv (p3.length : Int)), (17, iv (p3.length : Int)), (18, .bool true), (19, .bool true), (20, iv (p3.length : Int)), (21, iv (Int.tmod (p3.length : Int) 2)), (22, .bool false), (23, .bool false), (24, .bool false), (25, undef), (26, undef), (27, undef), (28, undef), (29, undef), (30, undef), (31, undef), (32, undef), (33, undef), (34, undef), (35, undef), (36, undef), (37, undef), (38, undef), (39, undef), (40, undef), (41, undef), (42, undef), (43, undef), (44, undef), (45, undef), (46, undef), (47, undef), (48, undef)]) (H33_37 p2 p3 p0 p1) [] []) 26 (QJ.dn ⟨rfl, SJ.la⟩)))))
   exact hK
 replace hm227 := of_neg hm227 hc1
 have hm227 := sj hm227
 subst hm227
 refine TS.dp [] (fun e he => by cases he) mixed 32 [1, 2, 3, 7, 54] [0, 1, 2] (S33_39 p3 p4) (H33_37 p2 p3 p0 p1) ?_ ?_
 · exact QJ.rn (qs (S33_38 p3 p4) (H33_37 p2 p3 p0 p1) [] []) 1 (QJ.o { val := .bool false } (q_conv (e := decide ((p3.length : Int) > 0)) (b := false) (by kernel_rfl) hc1) (QJ.rn (qs (st 142 [(1, sv 1 p3.length ANY), (2, iv p4), (3, pt 2 0), (7, iv (p3.length : Int)), (17, iv (p3.length : Int)), (18, .bool false), (19, .bool false), (20, undef), (21, undef), (22, undef), (23, .bool false), (24, .bool false), (25, undef), (26, undef), (27, undef), (28, undef), (29, undef), (30, undef), (31, undef), (32, undef), (33, undef), (34, undef), (35, undef), (36, undef), (37, undef), (38, undef), (39, undef), (40, undef), (41, undef), (42, undef), (43, undef), (44, undef), (45, undef), (46, undef), (47, undef), (48, undef)]) (H33_37 p2 p3 p0 p1) [] []) 30 (QJ.dn ⟨rfl, SJ.la⟩)))
 exact hK
theorem C33 (k : Nat) : ∀ (p0 : Int) (p1 : Int) (p2 : List I2) (p3 : List Int) (p4 : Int) (r : Bool), F33 k p0 p1 p2 p3 p4 = some r → PureSim Try.prog 33 [ag [iv p0, iv p1, sv 0 p2.length ANY], sv 1 p3.length ANY, iv p4] (H33_40 p2 p3) (V33 2 r) (N33 2 r) := by
 induction k with
 | zero => intro p0 p1 p2 p3 p4 r hF; cases (show (none : Option Bool) = some r from hF)
 | succ k ih =>
  intro p0 p1 p2 p3 p4 r hF
  exact PureSim.of_Fin Try.func33 (c := c33) (by kernel_rfl) (by kernel_rfl) 2 rfl [0, 1, 2] [0, 1] (by kernel_rfl) (B33 (F33 k) ih p0 p1 p2 p3 p4 r hF)
noncomputable def c35 : Code := Try.f35.code
def S35_0 (v134 : List Int) (o153 : I2) (p0 p1 : Int) (r14 : List Int) (v65 : Int) (p2 : List I2) (v133 : Int) : CAct := (st 71 [(1, pt 1 0), (3, mkV 2 v134.length), (7, iv (Int.tmod o153.1 p0)), (8, iv (w64 (p0 + (Int.tmod o153.1 p1)))), (26, iv (r14.length : Int)), (27, iv v65), (30, sv 0 p2.length ANY), (31, iv (p2.length : Int)), (32, iv v133)])
def H35_1 (p2 : List I2) (p0 p1 : Int) (v134 : List Int) (o153 : I2) (o158 o161 : Int) : List Blk := [ab 57 e57 p2, cl 24 [iv p0, iv p1, sv 0 p2.length ANY], .cells 3 (List.flatMap e3 (List.set v134 (Int.toNat (Int.tmod o153.1 p0)) (mn o158 o161))), .dead]
def S35_2 (v134 r14 : List Int) (v65 : Int) (p2 : List I2) (v133 : Int) : CAct := (st 71 [(1, pt 1 0), (3, mkV 2 v134.length), (26, iv (r14.length : Int)), (27, iv v65), (30, sv 0 p2.length ANY), (31, iv (p2.length : Int)), (32, iv v133)])
def H35_3 (p2 : List I2) (p0 p1 : Int) : List Blk := [ab 57 e57 p2, cl 24 [iv p0, iv p1, sv 0 p2.length ANY], .cells 3 (List.flatMap e3 (List.replicate (Int.toNat (w64 (p0 + p1))) (0 : Int)))]
def S35_4 (v66 r14 : List Int) (v65 : Int) (p2 : List I2) : CAct := (st 71 [(1, pt 1 0), (3, mkV 2 v66.length), (26, iv (r14.length : Int)), (27, iv v65), (30, sv 0 p2.length ANY), (31, iv (p2.length : Int)), (32, iv 0)])
def H35_5 (p2 : List I2) (p0 p1 : Int) (v134 : List Int) (o153 : I2) : List Blk := [ab 57 e57 p2, cl 24 [iv p0, iv p1, sv 0 p2.length ANY], .cells 3 (List.flatMap e3 v134), cl 57 [iv o153.1, iv o153.2]]
def H35_6 (p2 : List I2) (p0 p1 : Int) (v134 : List Int) : List Blk := [ab 57 e57 p2, cl 24 [iv p0, iv p1, sv 0 p2.length ANY], .cells 3 (List.flatMap e3 v134), .dead]
def H35_7 (p2 : List I2) (p0 p1 : Int) (v134 : List Int) : List Blk := [ab 57 e57 p2, cl 24 [iv p0, iv p1, sv 0 p2.length ANY], .cells 3 (List.flatMap e3 v134)]
def H35_8 (p2 : List I2) (p0 p1 : Int) (v66 : List Int) : List Blk := [ab 57 e57 p2, cl 24 [iv p0, iv p1, sv 0 p2.length ANY], .cells 3 (List.flatMap e3 v66)]
def H35_9 (p2 : List I2) (p0 p1 : Int) (v7 : List Int) : List Blk := [ab 57 e57 p2, cl 24 [iv p0, iv p1, sv 0 p2.length ANY], .cells 3 (List.flatMap e3 v7)]
def F35l0 (p0 p1 : Int) (p2 : List I2) (o2 v6 : Int) (v7 : List Int) : Option (List Int) :=
 if decide (v6 < o2) then
  if (0 : Int) ≤ v6 ∧ v6 < (v7.length : Int) then
   F35l0 p0 p1 p2 o2 (w64 (v6 + 1)) (List.set v7 (Int.toNat v6) v6)
  else none
 else
  some v7
 partial_fixpoint
def F35l2 (p0 p1 : Int) (p2 : List I2) (r14 : List Int) (v65 v133 : Int) (v134 : List Int) : Option (List Int) :=
 if decide (v133 < (p2.length : Int)) then
  if (0 : Int) ≤ v133 ∧ v133 < (p2.length : Int) then
   some (List.getD p2 (Int.toNat v133) (0, 0)) >>= fun o153 =>
   if p0 = 0 then none else
   if p1 = 0 then none else
   if (0 : Int) ≤ Int.tmod o153.1 p0 ∧ Int.tmod o153.1 p0 < (v134.length : Int) then
    some (List.getD v134 (Int.toNat (Int.tmod o153.1 p0)) 0) >>= fun o158 =>
    if (0 : Int) ≤ w64 (p0 + (Int.tmod o153.1 p1)) ∧ w64 (p0 + (Int.tmod o153.1 p1)) < (v134.length : Int) then
     some (List.getD v134 (Int.toNat (w64 (p0 + (Int.tmod o153.1 p1)))) 0) >>= fun o161 =>
     some (List.getD (List.set v134 (Int.toNat (Int.tmod o153.1 p0)) (mn o158 o161)) (Int.toNat (Int.tmod o153.1 p0)) 0) >>= fun o163 =>
     F35l2 p0 p1 p2 r14 v65 (w64 (v133 + 1)) (List.set (List.set v134 (Int.toNat (Int.tmod o153.1 p0)) (mn o158 o161)) (Int.toNat (w64 (p0 + (Int.tmod o153.1 p1)))) o163)
    else none
   else none
  else none
 else
  some v134
 partial_fixpoint
def F35l1 (p0 p1 : Int) (p2 : List I2) (r14 : List Int) (v65 : Int) (v66 : List Int) : Option (List Int) :=
 if decide (v65 < (r14.length : Int)) then
  F35l2 p0 p1 p2 r14 v65 0 v66 >>= fun r165 =>
  F35l1 p0 p1 p2 r14 (w64 (v65 + 1)) r165
 else
  some v66
 partial_fixpoint
def F35 (p0 p1 : Int) (p2 : List I2) : Option (List Int) :=
 if (0 : Int) ≤ w64 (p0 + p1) ∧ w64 (p0 + p1) ≤ 1000000000 then
  some (List.length (List.replicate (Int.toNat (w64 (p0 + p1))) (0 : Int)) : Int) >>= fun o2 =>
  F35l0 p0 p1 p2 o2 0 (List.replicate (Int.toNat (w64 (p0 + p1))) (0 : Int)) >>= fun r14 =>
  F35l1 p0 p1 p2 r14 0 r14 >>= fun r167 =>
  some r167
 else none
def V35 (b : Nat) (r : List Int) : Value := mkV (b + 0) r.length
def N35 (b : Nat) (r : List Int) : List Blk := [.cells 3 (List.flatMap e3 r)]
def P35l0 (p0 p1 : Int) (p2 : List I2) (o2 : Int) (r : List Int) : Post := fun e a h => e = .exit 0 ∧ Wk Try.prog 1 1 a h (st 71 [(1, pt 1 0), (3, mkV 2 r.length)]) [ab 57 e57 p2, cl 24 [iv p0, iv p1, sv 0 p2.length ANY], .cells 3 (List.flatMap e3 r)]
theorem L35l0 (p0 p1 : Int) (p2 : List I2) (o2 v6 : Int) (v7 r : List Int) (hF : F35l0 p0 p1 p2 o2 v6 v7 = some r) : TL Try.prog 1 1 c35.s2.s2.s1.s2.bd.bd (st 71 [(1, pt 1 0), (3, mkV 2 v7.length), (16, iv o2), (17, iv v6)]) (H35_9 p2 p0 p1 v7) (P35l0 p0 p1 p2 o2 r) := by
 refine F35l0.partial_correctness p0 p1 p2 o2 (motive := fun v6 v7 r => TL Try.prog 1 1 c35.s2.s2.s1.s2.bd.bd (st 71 [(1, pt 1 0), (3, mkV 2 v7.length), (16, iv o2), (17, iv v6)]) (H35_9 p2 p0 p1 v7) (P35l0 p0 p1 p2 o2 r)) ?_ v6 v7 r hF
 clear hF r v6 v7
 intro again ih v6 v7 r hF
 refine TL.round (TS.sq (TS.rg (TI.ra 1 [1, 3, 16, 17, 18] (st 71 [(1, pt 1 0), (3, mkV 2 v7.length), (16, iv o2), (17, iv v6), (18, .bool (decide (v6 < o2)))]) (TI.dn (NX.sq (TS.sq ?_))))))
 refine TS.cd (.tmp 18) (decide (v6 < o2)) (fun hc12 => ?_) (fun hc12 => ?_)
 · replace hF := of_pos hF hc12
   refine TS.sk (NX.sq (TS.sq (TS.bk 1 (TS.sq (TS.rg (TI.ra 2 [1, 3, 4, 16, 17] (st 71 [(1, pt 1 0), (3, mkV 2 v7.length), (4, iv v6), (16, iv o2), (17, iv v6)]) (TI.dn (NX.sq ?_))))))))
   obtain ⟨hg13, hF⟩ := of_guard hF
   refine TS.rg (TI.ra 3 [1, 3, 16, 17, 20, 21, 22] (st 71 [(1, pt 1 0), (3, mkV 2 v7.length), (16, iv o2), (17, iv v6), (20, mkV 2 v7.length), (21, iv v6), (22, iv v6)]) (TI.o { val := .pointer (some ⟨2, 0 + (Int.toNat v6) * 1, none⟩) } (q_ixS 2 0 ((Int.toNat v6) * 1) (by kernel_rfl) hg13) [1, 3, 16, 17, 22, 23] [0, 1, 2] (st 71 [(1, pt 1 0), (3, mkV 2 v7.length), (16, iv o2), (17, iv v6), (22, iv v6), (23, .pointer (some ⟨2, 0 + (Int.toNat v6) * 1, none⟩))]) (H35_9 p2 p0 p1 v7) ?_))
   refine TI.o { val := undef, upd := some (2, .cells 3 (List.flatMap e3 (List.set v7 (Int.toNat v6) v6))) } (q_stP Try.prog 1 (H35_9 p2 p0 p1 v7) 3 2 (0 + (Int.toNat v6) * 1) v7 e3 1 3 (Int.toNat v6) 0 1 (iv v6) [iv v6] 0 v6 (by first | omega | (simp <;> omega))) [1, 3, 16, 17] [0, 1, 2] (st 71 [(1, pt 1 0), (3, mkV 2 v7.length), (16, iv o2), (17, iv v6)]) [ab 57 e57 p2, cl 24 [iv p0, iv p1, sv 0 p2.length ANY], .cells 3 (List.flatMap e3 (List.set v7 (Int.toNat v6) v6))] (TI.dn (NX.bk (NX.sq (TS.rg (TI.ra 2 [1, 3, 16, 17] (st 71 [(1, pt 1 0), (3, mkV 2 v7.length), (16, iv o2), (17, iv (w64 (v6 + 1)))]) (TI.dn ?_))))))
   exact Rd.again (a2 := (st 71 [(1, pt 1 0), (3, mkV 2 (List.length (List.set v7 (Int.toNat v6) v6))), (16, iv o2), (17, iv (w64 (v6 + 1)))])) (h2 := [ab 57 e57 p2, cl 24 [iv p0, iv p1, sv 0 p2.length ANY], .cells 3 (List.flatMap e3 (List.set v7 (Int.toNat v6) v6))]) (Wk.an [1, 2] (.ac (.lt (.fl (.fl (.sl .nil))) (.cons (At.blk (by kernel_rfl) (RnB.list (fun _ => rfl))) (.nil _)))) [pt 1 0, mkV 2 v7.length, iv o2, iv (w64 (v6 + 1))] (.pp (.cons (Rn.mk (nl rfl) rfl (by simp only [List.length_set])) (.fl (.fl .nil))))) (ih (w64 (v6 + 1)) (List.set v7 (Int.toNat v6) v6) _ hF)
 replace hF := of_neg hF hc12
 refine TS.ex 0 (NX.sqX ?_)
 have hF := sj hF
 subst hF
 exact Rd.out (e := .exit 0) (by intro h; cases h) (And.intro rfl (Wk.an [1, 2] (.ac (.lt (.fl (.fl (.sl .nil))) (.cons (At.blk (by kernel_rfl) (RnB.list (fun _ => rfl))) (.nil _)))) [pt 1 0, mkV 2 v7.length] (.pp (.cons (Rn.mk (nl rfl) rfl (by simp only [List.length_set])) .nil))))
def P35l2 (p0 p1 : Int) (p2 : List I2) (r14 : List Int) (v65 : Int) (r : List Int) : Post := fun e a h => e = .exit 4 ∧ Wk Try.prog 1 1 a h (st 71 [(1, pt 1 0), (3, mkV 2 r.length), (26, iv (r14.length : Int)), (27, iv v65)]) [ab 57 e57 p2, cl 24 [iv p0, iv p1, sv 0 p2.length ANY], .cells 3 (List.flatMap e3 r)]
theorem L35l2 (p0 p1 : Int) (p2 : List I2) (r14 : List Int) (v65 v133 : Int) (v134 r : List Int) (hF : F35l2 p0 p1 p2 r14 v65 v133 v134 = some r) : TL Try.prog 1 1 c35.s2.s2.s2.s1.s2.bd.bd.s2.s2.s1.bd.s2.bd.bd (S35_2 v134 r14 v65 p2 v133) (H35_7 p2 p0 p1 v134) (P35l2 p0 p1 p2 r14 v65 r) := by
 refine F35l2.partial_correctness p0 p1 p2 r14 v65 (motive := fun v133 v134 r => TL Try.prog 1 1 c35.s2.s2.s2.s1.s2.bd.bd.s2.s2.s1.bd.s2.bd.bd (S35_2 v134 r14 v65 p2 v133) (H35_7 p2 p0 p1 v134) (P35l2 p0 p1 p2 r14 v65 r)) ?_ v133 v134 r hF
 clear hF r v133 v134
 intro again ih v133 v134 r hF
 refine TL.round (TS.sq (TS.rg (TI.ra 1 [1, 3, 26, 27, 30, 31, 32, 33] (st 71 [(1, pt 1 0), (3, mkV 2 v134.length), (26, iv (r14.length : Int)), (27, iv v65), (30, sv 0 p2.length ANY), (31, iv (p2.length : Int)), (32, iv v133), (33, .bool (decide (v133 < (p2.length : Int))))]) (TI.dn (NX.sq (TS.sq ?_))))))
 refine TS.cd (.tmp 33) (decide (v133 < (p2.length : Int))) (fun hc151 => ?_) (fun hc151 => ?_)
 · replace hF := of_pos hF hc151
   refine TS.sk (NX.sq (TS.sq (TS.bk 5 (TS.sq ?_))))
   obtain ⟨hg152, hF⟩ := of_guard hF
   obtain ⟨o153, h154, hF⟩ := of_do hF
   replace h154 := sj h154
   refine TS.rg (TI.o { val := .pointer (some ⟨0, 0 + (Int.toNat v133) * 2, none⟩) } (q_ixS 0 0 ((Int.toNat v133) * 2) (by kernel_rfl) hg152) [1, 3, 26, 27, 30, 31, 32, 34] [0, 1, 2] (st 71 [(1, pt 1 0), (3, mkV 2 v134.length), (26, iv (r14.length : Int)), (27, iv v65), (30, sv 0 p2.length ANY), (31, iv (p2.length : Int)), (32, iv v133), (34, .pointer (some ⟨0, 0 + (Int.toNat v133) * 2, none⟩))]) (H35_7 p2 p0 p1 v134) (TI.o { val := ag [iv o153.1, iv o153.2] } (q_nAa Try.prog (H35_7 p2 p0 p1 v134) 57 0 (0 + (Int.toNat v133) * 2) p2 e57 2 57 (Int.toNat v133) (0, 0) h154) [1, 3, 26, 27, 30, 31, 32, 35] [0, 1, 2] (st 71 [(1, pt 1 0), (3, mkV 2 v134.length), (26, iv (r14.length : Int)), (27, iv v65), (30, sv 0 p2.length ANY), (31, iv (p2.length : Int)), (32, iv v133), (35, ag [iv o153.1, iv o153.2])]) (H35_7 p2 p0 p1 v134) (TI.rn 2 [1, 3, 6, 26, 27, 30, 31, 32] [0, 1, 2, 3] (st 71 [(1, pt 1 0), (3, mkV 2 v134.length), (6, pt 3 0), (26, iv (r14.length : Int)), (27, iv v65), (30, sv 0 p2.length ANY), (31, iv (p2.length : Int)), (32, iv v133)]) (H35_5 p2 p0 p1 v134 o153) (TI.dn (NX.sq (TS.sq ?_))))))
   obtain ⟨hg155, hF⟩ := of_guardn hF
   obtain ⟨hg156, hF⟩ := of_guardn hF
   refine TS.dp [] (fun e he => by cases he) mixed 14 [1, 3, 7, 8, 26, 27, 30, 31, 32] [0, 1, 2] (S35_0 v134 o153 p0 p1 r14 v65 p2 v133) (H35_6 p2 p0 p1 v134) ?_ ?_
   · exact QJ.rn (qs (st 71 [(1, pt 1 0), (3, mkV 2 v134.length), (6, pt 3 0), (26, iv (r14.length : Int)), (27, iv v65), (30, sv 0 p2.length ANY), (31, iv (p2.length : Int)), (32, iv v133), (36, pt 3 0), (37, iv o153.1), (38, pt 1 0), (39, iv p0)]) (H35_5 p2 p0 p1 v134 o153) [] []) 4 (QJ.o { val := iv (Int.tmod o153.1 p0) } (q_int (P := Try.prog) (op := .rem) (ty := 3) (ox := (.tmp 37)) (oy := (.tmp 39)) (k := .i64) (k' := .i64) (y := o153.1) (z := p0) (by kernel_rfl) (rem_ok hg155)) (QJ.rn (qs (st 71 [(1, pt 1 0), (3, mkV 2 v134.length), (6, pt 3 0), (26, iv (r14.length : Int)), (27, iv v65), (30, sv 0 p2.length ANY), (31, iv (p2.length : Int)), (32, iv v133), (36, pt 3 0), (37, iv o153.1), (38, pt 1 0), (39, iv p0), (40, iv (Int.tmod o153.1 p0)), (41, pt 1 0), (42, iv p0), (43, pt 3 0), (44, iv o153.1), (45, pt 1 1), (46, iv p1)]) (H35_5 p2 p0 p1 v134 o153) [] []) 6 (QJ.o { val := iv (Int.tmod o153.1 p1) } (q_int (P := Try.prog) (op := .rem) (ty := 3) (ox := (.tmp 44)) (oy := (.tmp 46)) (k := .i64) (k' := .i64) (y := o153.1) (z := p1) (by kernel_rfl) (rem_ok hg156)) (QJ.rn (qs (st 71 [(1, pt 1 0), (3, mkV 2 v134.length), (6, pt 3 0), (7, iv (Int.tmod o153.1 p0)), (26, iv (r14.length : Int)), (27, iv v65), (30, sv 0 p2.length ANY), (31, iv (p2.length : Int)), (32, iv v133), (36, pt 3 0), (37, iv o153.1), (38, pt 1 0), (39, iv p0), (40, iv (Int.tmod o153.1 p0)), (41, pt 1 0), (42, iv p0), (43, pt 3 0), (44, iv o153.1), (45, pt 1 1), (46, iv p1), (47, iv (Int.tmod o153.1 p1)), (48, iv (w64 (p0 + (Int.tmod o153.1 p1))))]) (H35_5 p2 p0 p1 v134 o153) [] []) 2 (QJ.dn ⟨rfl, SJ.la⟩)))))
   refine TS.sq ?_
   obtain ⟨hg157, hF⟩ := of_guard hF
   obtain ⟨o158, h159, hF⟩ := of_do hF
   replace h159 := sj h159
   obtain ⟨hg160, hF⟩ := of_guard hF
   obtain ⟨o161, h162, hF⟩ := of_do hF
   replace h162 := sj h162
   refine TS.dp [] (fun e he => by cases he) mixed 11 [1, 3, 7, 8, 26, 27, 30, 31, 32] [0, 1, 2] (S35_0 v134 o153 p0 p1 r14 v65 p2 v133) (H35_1 p2 p0 p1 v134 o153 o158 o161) ?_ ?_
   · refine QJ.rn (qs (st 71 [(1, pt 1 0), (3, mkV 2 v134.length), (7, iv (Int.tmod o153.1 p0)), (8, iv (w64 (p0 + (Int.tmod o153.1 p1)))), (26, iv (r14.length : Int)), (27, iv v65), (30, sv 0 p2.length ANY), (31, iv (p2.length : Int)), (32, iv v133), (49, mkV 2 v134.length), (50, iv (Int.tmod o153.1 p0)), (51, mkV 2 v134.length), (52, iv (Int.tmod o153.1 p0))]) (H35_6 p2 p0 p1 v134) [] []) 4 (QJ.o { val := .pointer (some ⟨2, 0 + (Int.toNat (Int.tmod o153.1 p0)) * 1, none⟩) } (q_ixS 2 0 ((Int.toNat (Int.tmod o153.1 p0)) * 1) (by kernel_rfl) hg157) (QJ.o { val := iv o158 } (q_n1 Try.prog (H35_6 p2 p0 p1 v134) 3 2 (0 + (Int.toNat (Int.tmod o153.1 p0)) * 1) v134 e3 1 3 (Int.toNat (Int.tmod o153.1 p0)) 0 0 h159) (QJ.rn (qs (st 71 [(1, pt 1 0), (3, mkV 2 v134.length), (7, iv (Int.tmod o153.1 p0)), (8, iv (w64 (p0 + (Int.tmod o153.1 p1)))), (26, iv (r14.length : Int)), (27, iv v65), (30, sv 0 p2.length ANY), (31, iv (p2.length : Int)), (32, iv v133), (49, mkV 2 v134.length), (50, iv (Int.tmod o153.1 p0)), (51, mkV 2 v134.length), (52, iv (Int.tmod o153.1 p0)), (53, .pointer (some ⟨2, 0 + (Int.toNat (Int.tmod o153.1 p0)) * 1, none⟩)), (54, iv o158), (55, mkV 2 v134.length), (56, iv (w64 (p0 + (Int.tmod o153.1 p1))))]) (H35_6 p2 p0 p1 v134) [] []) 2 (QJ.o { val := .pointer (some ⟨2, 0 + (Int.toNat (w64 (p0 + (Int.tmod o153.1 p1)))) * 1, none⟩) } (q_ixS 2 0 ((Int.toNat (w64 (p0 + (Int.tmod o153.1 p1)))) * 1) (by kernel_rfl) hg160) (QJ.o { val := iv o161 } (q_n1 Try.prog (H35_6 p2 p0 p1 v134) 3 2 (0 + (Int.toNat (w64 (p0 + (Int.tmod o153.1 p1)))) * 1) v134 e3 1 3 (Int.toNat (w64 (p0 + (Int.tmod o153.1 p1)))) 0 0 h162) (QJ.rn (qs (st 71 [(1, pt 1 0), (3, mkV 2 v134.length), (7, iv (Int.tmod o153.1 p0)), (8, iv (w64 (p0 + (Int.tmod o153.1 p1)))), (26, iv (r14.length : Int)), (27, iv v65), (30, sv 0 p2.length ANY), (31, iv (p2.length : Int)), (32, iv v133), (49, mkV 2 v134.length), (50, iv (Int.tmod o153.1 p0)), (51, mkV 2 v134.length), (52, iv (Int.tmod o153.1 p0)), (53, .pointer (some ⟨2, 0 + (Int.toNat (Int.tmod o153.1 p0)) * 1, none⟩)), (54, iv o158), (55, mkV 2 v134.length), (56, iv (w64 (p0 + (Int.tmod o153.1 p1)))), (57, .pointer (some ⟨2, 0 + (Int.toNat (w64 (p0 + (Int.tmod o153.1 p1)))) * 1, none⟩)), (58, iv o161), (59, iv (mn o158 o161))]) (H35_6 p2 p0 p1 v134) [] []) 1 (QJ.dn ⟨rfl, (SJ.o { val := .pointer (some ⟨2, 0 + (Int.toNat (Int.tmod o153.1 p0)) * 1, none⟩) } (q_ixS 2 0 ((Int.toNat (Int.tmod o153.1 p0)) * 1) (by kernel_rfl) hg157) ?_)⟩)))))))
     exact SJ.o { val := undef, upd := some (2, .cells 3 (List.flatMap e3 (List.set v134 (Int.toNat (Int.tmod o153.1 p0)) (mn o158 o161)))) } (q_stP Try.prog 1 (H35_6 p2 p0 p1 v134) 3 2 (0 + (Int.toNat (Int.tmod o153.1 p0)) * 1) v134 e3 1 3 (Int.toNat (Int.tmod o153.1 p0)) 0 1 (iv (mn o158 o161)) [iv (mn o158 o161)] 0 (mn o158 o161) (by first | omega | (simp <;> omega))) SJ.dn
   obtain ⟨o163, h164, hF⟩ := of_do hF
   replace h164 := sj h164
   refine TS.rg (TI.ra 4 [1, 3, 26, 27, 30, 31, 32, 61, 62, 63, 64] (st 71 [(1, pt 1 0), (3, mkV 2 v134.length), (26, iv (r14.length : Int)), (27, iv v65), (30, sv 0 p2.length ANY), (31, iv (p2.length : Int)), (32, iv v133), (61, mkV 2 v134.length), (62, iv (w64 (p0 + (Int.tmod o153.1 p1)))), (63, mkV 2 v134.length), (64, iv (Int.tmod o153.1 p0))]) (TI.o { val := .pointer (some ⟨2, 0 + (Int.toNat (Int.tmod o153.1 p0)) * 1, none⟩) } (q_ixS 2 0 ((Int.toNat (Int.tmod o153.1 p0)) * 1) (by kernel_rfl) hg157) [1, 3, 26, 27, 30, 31, 32, 61, 62, 65] [0, 1, 2] (st 71 [(1, pt 1 0), (3, mkV 2 v134.length), (26, iv (r14.length : Int)), (27, iv v65), (30, sv 0 p2.length ANY), (31, iv (p2.length : Int)), (32, iv v133), (61, mkV 2 v134.length), (62, iv (w64 (p0 + (Int.tmod o153.1 p1)))), (65, .pointer (some ⟨2, 0 + (Int.toNat (Int.tmod o153.1 p0)) * 1, none⟩))]) (H35_1 p2 p0 p1 v134 o153 o158 o161) (TI.o { val := iv o163 } (q_n1 Try.prog (H35_1 p2 p0 p1 v134 o153 o158 o161) 3 2 (0 + (Int.toNat (Int.tmod o153.1 p0)) * 1) (List.set v134 (Int.toNat (Int.tmod o153.1 p0)) (mn o158 o161)) e3 1 3 (Int.toNat (Int.tmod o153.1 p0)) 0 0 h164) [1, 3, 26, 27, 30, 31, 32, 61, 62, 66] [0, 1, 2] (st 71 [(1, pt 1 0), (3, mkV 2 v134.length), (26, iv (r14.length : Int)), (27, iv v65), (30, sv 0 p2.length ANY), (31, iv (p2.length : Int)), (32, iv v133), (61, mkV 2 v134.length), (62, iv (w64 (p0 + (Int.tmod o153.1 p1)))), (66, iv o163)]) (H35_1 p2 p0 p1 v134 o153 o158 o161) (TI.o { val := .pointer (some ⟨2, 0 + (Int.toNat (w64 (p0 + (Int.tmod o153.1 p1)))) * 1, none⟩) } (q_ixS 2 0 ((Int.toNat (w64 (p0 + (Int.tmod o153.1 p1)))) * 1) (by kernel_rfl) hg160) [1, 3, 26, 27, 30, 31, 32, 66, 67] [0, 1, 2] (st 71 [(1, pt 1 0), (3, mkV 2 v134.length), (26, iv (r14.length : Int)), (27, iv v65), (30, sv 0 p2.length ANY), (31, iv (p2.length : Int)), (32, iv v133), (66, iv o163), (67, .pointer (some ⟨2, 0 + (Int.toNat (w64 (p0 + (Int.tmod o153.1 p1)))) * 1, none⟩))]) (H35_1 p2 p0 p1 v134 o153 o158 o161) ?_))))
   refine TI.o { val := undef, upd := some (2, .cells 3 (List.flatMap e3 (List.set (List.set v134 (Int.toNat (Int.tmod o153.1 p0)) (mn o158 o161)) (Int.toNat (w64 (p0 + (Int.tmod o153.1 p1)))) o163))) } (q_stP Try.prog 1 (H35_1 p2 p0 p1 v134 o153 o158 o161) 3 2 (0 + (Int.toNat (w64 (p0 + (Int.tmod o153.1 p1)))) * 1) (List.set v134 (Int.toNat (Int.tmod o153.1 p0)) (mn o158 o161)) e3 1 3 (Int.toNat (w64 (p0 + (Int.tmod o153.1 p1)))) 0 1 (iv o163) [iv o163] 0 o163 (by first | omega | (simp <;> omega))) [1, 3, 26, 27, 30, 31, 32] [0, 1, 2] (S35_2 v134 r14 v65 p2 v133) [ab 57 e57 p2, cl 24 [iv p0, iv p1, sv 0 p2.length ANY], .cells 3 (List.flatMap e3 (List.set (List.set v134 (Int.toNat (Int.tmod o153.1 p0)) (mn o158 o161)) (Int.toNat (w64 (p0 + (Int.tmod o153.1 p1)))) o163)), .dead] (TI.dn (NX.bk (NX.sq (TS.rg (TI.ra 2 [1, 3, 26, 27, 30, 31, 32] (st 71 [(1, pt 1 0), (3, mkV 2 v134.length), (26, iv (r14.length : Int)), (27, iv v65), (30, sv 0 p2.length ANY), (31, iv (p2.length : Int)), (32, iv (w64 (v133 + 1)))]) (TI.dn ?_))))))
   exact Rd.again (a2 := (st 71 [(1, pt 1 0), (3, mkV 2 (List.length (List.set (List.set v134 (Int.toNat (Int.tmod o153.1 p0)) (mn o158 o161)) (Int.toNat (w64 (p0 + (Int.tmod o153.1 p1)))) o163))), (26, iv (r14.length : Int)), (27, iv v65), (30, sv 0 p2.length ANY), (31, iv (p2.length : Int)), (32, iv (w64 (v133 + 1)))])) (h2 := [ab 57 e57 p2, cl 24 [iv p0, iv p1, sv 0 p2.length ANY], .cells 3 (List.flatMap e3 (List.set (List.set v134 (Int.toNat (Int.tmod o153.1 p0)) (mn o158 o161)) (Int.toNat (w64 (p0 + (Int.tmod o153.1 p1)))) o163))]) (Wk.an [1, 2] (.ac (.lt (.fl (.fl (.sl .nil))) (.cons (At.blk (by kernel_rfl) (RnB.list (fun _ => rfl))) (.nil _)))) [pt 1 0, mkV 2 v134.length, iv (r14.length : Int), iv v65, sv 0 p2.length ANY, iv (p2.length : Int), iv (w64 (v133 + 1))] (.pp (.cons (Rn.mk (nl rfl) rfl (by simp only [List.length_set])) (.fl (.fl (.sl (.fl (.fl .nil)))))))) (ih (w64 (v133 + 1)) (List.set (List.set v134 (Int.toNat (Int.tmod o153.1 p0)) (mn o158 o161)) (Int.toNat (w64 (p0 + (Int.tmod o153.1 p1)))) o163) _ hF)
 replace hF := of_neg hF hc151
 refine TS.ex 4 (NX.sqX ?_)
 have hF := sj hF
 subst hF
 exact Rd.out (e := .exit 4) (by intro h; cases h) (And.intro rfl (Wk.an [1, 2] (.ac (.lt (.fl (.fl (.sl .nil))) (.cons (At.blk (by kernel_rfl) (RnB.list (fun _ => rfl))) (.nil _)))) [pt 1 0, mkV 2 v134.length, iv (r14.length : Int), iv v65] (.pp (.cons (Rn.mk (nl rfl) rfl (by simp only [List.length_set])) (.fl (.fl .nil))))))
def P35l1 (p0 p1 : Int) (p2 : List I2) (r14 r : List Int) : Post := fun e a h => e = .exit 2 ∧ Wk Try.prog 1 1 a h (st 71 [(3, mkV 1 r.length)]) [ab 57 e57 p2, .cells 3 (List.flatMap e3 r)]
theorem L35l1 (p0 p1 : Int) (p2 : List I2) (r14 : List Int) (v65 : Int) (v66 r : List Int) (hF : F35l1 p0 p1 p2 r14 v65 v66 = some r) : TL Try.prog 1 1 c35.s2.s2.s2.s1.s2.bd.bd (st 71 [(1, pt 1 0), (3, mkV 2 v66.length), (26, iv (r14.length : Int)), (27, iv v65)]) (H35_8 p2 p0 p1 v66) (P35l1 p0 p1 p2 r14 r) := by
 refine F35l1.partial_correctness p0 p1 p2 r14 (motive := fun v65 v66 r => TL Try.prog 1 1 c35.s2.s2.s2.s1.s2.bd.bd (st 71 [(1, pt 1 0), (3, mkV 2 v66.length), (26, iv (r14.length : Int)), (27, iv v65)]) (H35_8 p2 p0 p1 v66) (P35l1 p0 p1 p2 r14 r)) ?_ v65 v66 r hF
 clear hF r v65 v66
 intro again ih v65 v66 r hF
 refine TL.round (TS.sq (TS.rg (TI.ra 1 [1, 3, 26, 27, 28] (st 71 [(1, pt 1 0), (3, mkV 2 v66.length), (26, iv (r14.length : Int)), (27, iv v65), (28, .bool (decide (v65 < (r14.length : Int))))]) (TI.dn (NX.sq (TS.sq ?_))))))
 refine TS.cd (.tmp 28) (decide (v65 < (r14.length : Int))) (fun hc118 => ?_) (fun hc118 => ?_)
 · replace hF := of_pos hF hc118
   refine TS.sk (NX.sq (TS.sq (TS.bk 3 (TS.sq (TS.rg (TI.ra 4 [1, 3, 26, 27, 30, 31, 32] (S35_4 v66 r14 v65 p2) (TI.dn (NX.sq ?_))))))))
   refine TS.bk 4 ?_
   obtain ⟨r165, h166, hF⟩ := of_do hF
   refine TS.lp (TL.weak (a2 := (S35_4 v66 r14 v65 p2)) (h2 := (H35_8 p2 p0 p1 v66)) (Wk.an [1, 2] (.ac (.lt (.fl (.fl (.sl .nil))) (.cons (At.blk (by kernel_rfl) (RnB.list (fun _ => rfl))) (.nil _)))) [pt 1 0, mkV 2 v66.length, iv (r14.length : Int), iv v65, sv 0 p2.length ANY, iv (p2.length : Int), iv 0] (.pp (.cons (Rn.mk (nl rfl) rfl (by simp only [List.length_set])) (.fl (.fl (.sl (.fl (.fl .nil)))))))) (TL.post (L35l2 p0 p1 p2 r14 v65 0 v66 r165 h166) ?_))
   rintro e a1 h1 hp
   obtain ⟨rfl, hw⟩ := hp
   refine ⟨(st 71 [(1, pt 1 0), (3, mkV 2 r165.length), (26, iv (r14.length : Int)), (27, iv v65)]), [ab 57 e57 p2, cl 24 [iv p0, iv p1, sv 0 p2.length ANY], .cells 3 (List.flatMap e3 r165)], (NX.bkX (NX.bk (NX.sq (TS.rg (TI.ra 2 [1, 3, 26, 27] (st 71 [(1, pt 1 0), (3, mkV 2 r165.length), (26, iv (r14.length : Int)), (27, iv (w64 (v65 + 1)))]) (TI.dn ?_)))))), hw⟩
   exact Rd.again (a2 := (st 71 [(1, pt 1 0), (3, mkV 2 r165.length), (26, iv (r14.length : Int)), (27, iv (w64 (v65 + 1)))])) (h2 := [ab 57 e57 p2, cl 24 [iv p0, iv p1, sv 0 p2.length ANY], .cells 3 (List.flatMap e3 r165)]) (Wk.an [1, 2] (.ac (.lt (.fl (.fl (.sl .nil))) (.cons (At.blk (by kernel_rfl) (RnB.list (fun _ => rfl))) (.nil _)))) [pt 1 0, mkV 2 r165.length, iv (r14.length : Int), iv (w64 (v65 + 1))] (.pp (.cons (Rn.mk (nl rfl) rfl (by simp only [List.length_set])) (.fl (.fl .nil))))) (ih (w64 (v65 + 1)) r165 _ hF)
 replace hF := of_neg hF hc118
 refine TS.ex 2 (NX.sqX ?_)
 have hF := sj hF
 subst hF
 exact Rd.out (e := .exit 2) (by intro h; cases h) (And.intro rfl (Wk.an [2] (.ac (.cons (At.blk (by kernel_rfl) (RnB.list (fun _ => rfl))) (.nil _))) [mkV 2 v66.length] (.cons (Rn.mk (nl rfl) rfl (by simp only [List.length_set])) .nil)))
theorem B35 (p0 p1 : Int) (p2 : List I2) (r : List Int) (hF : F35 p0 p1 p2 = some r) : TS Try.prog 1 1 c35 (st 71 [(0, ag [iv p0, iv p1, sv 0 p2.length ANY])]) [ab 57 e57 p2] (NX Try.prog 1 1 [] (FinP Try.prog Try.f35 1 (V35 1 r) (N35 1 r))) := by
 unfold F35 at hF
 refine TS.sq (TS.rg (TI.rn 2 [1] [0, 1] (st 71 [(1, pt 1 0)]) [ab 57 e57 p2, cl 24 [iv p0, iv p1, sv 0 p2.length ANY]] (TI.dn (NX.sq (TS.sq ?_)))))
 obtain ⟨hg1, hF⟩ := of_guard hF
 refine TS.rg (TI.ra 5 [1, 13] (st 71 [(1, pt 1 0), (13, iv (w64 (p0 + p1)))]) (TI.o { val := mkV 2 (List.length (List.replicate (Int.toNat (w64 (p0 + p1))) (0 : Int))), new := [.cells 3 (List.flatMap e3 (List.replicate (Int.toNat (w64 (p0 + p1))) (0 : Int)))] } (q_make (P := Try.prog) (n := 2) (t := 30) (enc := e3) (s := 1) (e := 3) (y := w64 (p0 + p1)) (z := iv 0) (bytes := 8) (0 : Int) (by kernel_rfl) (by kernel_rfl) (by kernel_rfl) (by kernel_rfl) (by kernel_rfl) (by kernel_rfl) rfl hg1 (by decide)) [1, 14] [0, 1, 2] (st 71 [(1, pt 1 0), (14, mkV 2 (List.length (List.replicate (Int.toNat (w64 (p0 + p1))) (0 : Int))))]) (H35_3 p2 p0 p1) (TI.ra 1 [1, 3] (st 71 [(1, pt 1 0), (3, mkV 2 (List.length (List.replicate (Int.toNat (w64 (p0 + p1))) (0 : Int))))]) (TI.dn (NX.sq (TS.sq (TS.sq ?_)))))))
 obtain ⟨o2, h3, hF⟩ := of_do hF
 replace h3 := sj h3
 refine TS.rg (TI.ra 1 [1, 3, 15] (st 71 [(1, pt 1 0), (3, mkV 2 (List.length (List.replicate (Int.toNat (w64 (p0 + p1))) (0 : Int)))), (15, mkV 2 (List.length (List.replicate (Int.toNat (w64 (p0 + p1))) (0 : Int))))]) (TI.o { val := iv o2 } (q_convI (e := (List.length (List.replicate (Int.toNat (w64 (p0 + p1))) (0 : Int)) : Int)) (y := o2) (by kernel_rfl) h3) [1, 3, 16] [0, 1, 2] (st 71 [(1, pt 1 0), (3, mkV 2 (List.length (List.replicate (Int.toNat (w64 (p0 + p1))) (0 : Int)))), (16, iv o2)]) (H35_3 p2 p0 p1) (TI.ra 1 [1, 3, 16, 17] (st 71 [(1, pt 1 0), (3, mkV 2 (List.length (List.replicate (Int.toNat (w64 (p0 + p1))) (0 : Int)))), (16, iv o2), (17, iv 0)]) (TI.dn (NX.sq (TS.bk 0 ?_))))))
 obtain ⟨r14, h15, hF⟩ := of_do hF
 refine TS.lp (TL.weak (a2 := (st 71 [(1, pt 1 0), (3, mkV 2 (List.length (List.replicate (Int.toNat (w64 (p0 + p1))) (0 : Int)))), (16, iv o2), (17, iv 0)])) (h2 := (H35_3 p2 p0 p1)) (Wk.an [1, 2] (.ac (.lt (.fl (.fl (.sl .nil))) (.cons (At.blk (by kernel_rfl) (RnB.list (fun _ => rfl))) (.nil _)))) [pt 1 0, mkV 2 (List.length (List.replicate (Int.toNat (w64 (p0 + p1))) (0 : Int))), iv o2, iv 0] (.pp (.cons (Rn.mk (nl rfl) rfl (by simp only [List.length_set])) (.fl (.fl .nil))))) (TL.post (L35l0 p0 p1 p2 o2 0 (List.replicate (Int.toNat (w64 (p0 + p1))) (0 : Int)) r14 h15) ?_))
 rintro e a1 h1 hp
 obtain ⟨rfl, hw⟩ := hp
 refine ⟨(st 71 [(1, pt 1 0), (3, mkV 2 r14.length)]), [ab 57 e57 p2, cl 24 [iv p0, iv p1, sv 0 p2.length ANY], .cells 3 (List.flatMap e3 r14)], (NX.bkX (NX.sq (TS.sq (TS.sq (TS.rg (TI.ra 3 [1, 3, 26, 27] (st 71 [(1, pt 1 0), (3, mkV 2 r14.length), (26, iv (r14.length : Int)), (27, iv 0)]) (TI.dn (NX.sq ?_)))))))), hw⟩
 refine TS.bk 2 ?_
 obtain ⟨r167, h168, hF⟩ := of_do hF
 refine TS.lp (TL.weak (a2 := (st 71 [(1, pt 1 0), (3, mkV 2 r14.length), (26, iv (r14.length : Int)), (27, iv 0)])) (h2 := [ab 57 e57 p2, cl 24 [iv p0, iv p1, sv 0 p2.length ANY], .cells 3 (List.flatMap e3 r14)]) (Wk.an [1, 2] (.ac (.lt (.fl (.fl (.sl .nil))) (.cons (At.blk (by kernel_rfl) (RnB.list (fun _ => rfl))) (.nil _)))) [pt 1 0, mkV 2 r14.length, iv (r14.length : Int), iv 0] (.pp (.cons (Rn.mk (nl rfl) rfl (by simp only [List.length_set])) (.fl (.fl .nil))))) (TL.post (L35l1 p0 p1 p2 r14 0 r14 r167 h168) ?_))
 rintro e a1 h1 hp
 obtain ⟨rfl, hw⟩ := hp
 refine ⟨(st 71 [(3, mkV 1 r167.length)]), [ab 57 e57 p2, .cells 3 (List.flatMap e3 r167)], (NX.bkX (NX.sq (TS.sq (TS.rg (TI.ra 2 [2] (st 71 [(2, mkV 1 r167.length)]) (TI.dn (NX.sq (TS.rt ?_)))))))), hw⟩
 have hF := sj hF
 subst hF
 exact ⟨.inr rfl, rfl, mkV 1 r167.length, by kernel_rfl, WkV.made (L := 1) (f := [1]) (by decide) (by decide) rfl (.cons (At.blk (by kernel_rfl) (RnB.list (fun _ => rfl))) (.nil _)) (Rn.mk (nl rfl) rfl (by simp only [List.length_set]))⟩
theorem C35 (p0 p1 : Int) (p2 : List I2) (r : List Int) (hF : F35 p0 p1 p2 = some r) : PureSim Try.prog 35 [ag [iv p0, iv p1, sv 0 p2.length ANY]] [ab 57 e57 p2] (V35 1 r) (N35 1 r) :=
 PureSim.of_Fin Try.func35 (c := c35) (by kernel_rfl) (by kernel_rfl) 1 rfl [0] [0] (by kernel_rfl) (B35 p0 p1 p2 r hF)
end
end Go.Proofs.Ytdekbjfjbbdjgaa
