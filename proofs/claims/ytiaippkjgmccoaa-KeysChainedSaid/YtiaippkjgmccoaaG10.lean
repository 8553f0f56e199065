/- What functions of the program compute, and that they do. -/
import Derived.Test.YtiaippkjgmccoaaKV
import Derived.Test.YtiaippkjgmccoaaGiven
set_option linter.unusedVariables false
set_option linter.unusedSimpArgs false
set_option maxRecDepth 100000
set_option maxHeartbeats 4000000
namespace Go.Proofs.Ytiaippkjgmccoaa
open Go Go.Cl
noncomputable section
noncomputable def c10 : Code := Try.f10.code
def S10_0 (r7 r13 : (List (Int × Bool)) × Int) (r15 : Int) (r1 : Int × (List ((Int × Bool) × (Int × Bool)))) (r29 : Bool) (o33 r3 o37 r5 : Int × Bool) : CAct := (st 131 [(7, pt 3 0), (8, pt 4 0), (9, pt 5 0), (10, sv 6 r7.1.length ANY), (11, iv r7.2), (12, sv 7 r13.1.length ANY), (13, iv r13.2), (14, iv r15), (48, .bool (r15 == 0)), (63, iv r7.2), (64, .bool false), (65, .bool false), (66, iv r13.2), (67, .bool false), (68, .bool false), (69, .bool false), (70, sv 6 r7.1.length ANY), (71, iv (r7.1.length : Int)), (72, iv r15), (73, .bool false), (74, .bool false), (75, .bool false), (76, sv 7 r13.1.length ANY), (77, iv (r13.1.length : Int)), (78, iv r15), (79, .bool false), (80, .bool false), (81, .bool false), (82, ag [iv r1.1, accV 2 r1.2.length]), (83, sv 6 r7.1.length ANY), (84, .bool r29), (85, .bool false), (86, .bool false), (87, .bool false), (88, sv 6 r7.1.length ANY), (89, .pointer (some ⟨6, 0 + (Int.toNat 0) * 2, none⟩)), (90, ag [iv o33.1, .bool o33.2]), (91, ag [iv r3.1, .bool r3.2]), (92, .bool false), (93, .bool false), (94, .bool false), (95, sv 6 r7.1.length ANY), (96, iv r15), (97, iv (w64 (r15 - 1))), (98, .pointer (some ⟨6, 0 + (Int.toNat (w64 (r15 - 1))) * 2, none⟩)), (99, ag [iv o37.1, .bool o37.2]), (100, ag [iv r5.1, .bool r5.2])])
def S10_1 (r7 r13 : (List (Int × Bool)) × Int) (r15 : Int) (r1 : Int × (List ((Int × Bool) × (Int × Bool)))) (r29 : Bool) (o33 r3 : Int × Bool) : CAct := (st 131 [(7, pt 3 0), (8, pt 4 0), (9, pt 5 0), (10, sv 6 r7.1.length ANY), (11, iv r7.2), (12, sv 7 r13.1.length ANY), (13, iv r13.2), (14, iv r15), (48, .bool (r15 == 0)), (63, iv r7.2), (64, .bool false), (65, .bool false), (66, iv r13.2), (67, .bool false), (68, .bool false), (69, .bool false), (70, sv 6 r7.1.length ANY), (71, iv (r7.1.length : Int)), (72, iv r15), (73, .bool false), (74, .bool false), (75, .bool false), (76, sv 7 r13.1.length ANY), (77, iv (r13.1.length : Int)), (78, iv r15), (79, .bool false), (80, .bool false), (81, .bool false), (82, ag [iv r1.1, accV 2 r1.2.length]), (83, sv 6 r7.1.length ANY), (84, .bool r29), (85, .bool false), (86, .bool false), (87, .bool false), (88, sv 6 r7.1.length ANY), (89, .pointer (some ⟨6, 0 + (Int.toNat 0) * 2, none⟩)), (90, ag [iv o33.1, .bool o33.2]), (91, ag [iv r3.1, .bool r3.2]), (92, .bool false), (93, .bool false), (94, .bool false), (95, sv 6 r7.1.length ANY), (96, iv r15), (97, iv (w64 (r15 - 1)))])
def S10_2 (r7 r13 : (List (Int × Bool)) × Int) (r15 : Int) (r1 : Int × (List ((Int × Bool) × (Int × Bool)))) (r29 : Bool) (o33 r3 : Int × Bool) : CAct := (st 131 [(7, pt 3 0), (8, pt 4 0), (9, pt 5 0), (10, sv 6 r7.1.length ANY), (11, iv r7.2), (12, sv 7 r13.1.length ANY), (13, iv r13.2), (14, iv r15), (48, .bool (r15 == 0)), (63, iv r7.2), (64, .bool false), (65, .bool false), (66, iv r13.2), (67, .bool false), (68, .bool false), (69, .bool false), (70, sv 6 r7.1.length ANY), (71, iv (r7.1.length : Int)), (72, iv r15), (73, .bool false), (74, .bool false), (75, .bool false), (76, sv 7 r13.1.length ANY), (77, iv (r13.1.length : Int)), (78, iv r15), (79, .bool false), (80, .bool false), (81, .bool false), (82, ag [iv r1.1, accV 2 r1.2.length]), (83, sv 6 r7.1.length ANY), (84, .bool r29), (85, .bool false), (86, .bool false), (87, .bool false), (88, sv 6 r7.1.length ANY), (89, .pointer (some ⟨6, 0 + (Int.toNat 0) * 2, none⟩)), (90, ag [iv o33.1, .bool o33.2]), (91, ag [iv r3.1, .bool r3.2])])
def S10_3 (r7 r13 : (List (Int × Bool)) × Int) (r15 : Int) (r1 : Int × (List ((Int × Bool) × (Int × Bool)))) (r29 : Bool) : CAct := (st 131 [(7, pt 3 0), (8, pt 4 0), (9, pt 5 0), (10, sv 6 r7.1.length ANY), (11, iv r7.2), (12, sv 7 r13.1.length ANY), (13, iv r13.2), (14, iv r15), (48, .bool (r15 == 0)), (63, iv r7.2), (64, .bool false), (65, .bool false), (66, iv r13.2), (67, .bool false), (68, .bool false), (69, .bool false), (70, sv 6 r7.1.length ANY), (71, iv (r7.1.length : Int)), (72, iv r15), (73, .bool false), (74, .bool false), (75, .bool false), (76, sv 7 r13.1.length ANY), (77, iv (r13.1.length : Int)), (78, iv r15), (79, .bool false), (80, .bool false), (81, .bool false), (82, ag [iv r1.1, accV 2 r1.2.length]), (83, sv 6 r7.1.length ANY), (84, .bool r29), (85, .bool false), (86, .bool false), (87, .bool false), (88, sv 6 r7.1.length ANY)])
def S10_4 (r7 r13 : (List (Int × Bool)) × Int) (r15 : Int) (r1 : Int × (List ((Int × Bool) × (Int × Bool)))) : CAct := (st 131 [(7, pt 3 0), (8, pt 4 0), (9, pt 5 0), (10, sv 6 r7.1.length ANY), (11, iv r7.2), (12, sv 7 r13.1.length ANY), (13, iv r13.2), (14, iv r15), (48, .bool (r15 == 0)), (63, iv r7.2), (64, .bool false), (65, .bool false), (66, iv r13.2), (67, .bool false), (68, .bool false), (69, .bool false), (70, sv 6 r7.1.length ANY), (71, iv (r7.1.length : Int)), (72, iv r15), (73, .bool false), (74, .bool false), (75, .bool false), (76, sv 7 r13.1.length ANY), (77, iv (r13.1.length : Int)), (78, iv r15), (79, .bool false), (80, .bool false), (81, .bool false), (82, ag [iv r1.1, accV 2 r1.2.length]), (83, sv 6 r7.1.length ANY)])
def S10_5 (r7 r13 : (List (Int × Bool)) × Int) (r15 : Int) : CAct := (st 131 [(7, pt 3 0), (8, pt 4 0), (9, pt 5 0), (10, sv 6 r7.1.length ANY), (11, iv r7.2), (12, sv 7 r13.1.length ANY), (13, iv r13.2), (14, iv r15), (48, .bool (r15 == 0)), (63, iv r7.2), (64, .bool false), (65, .bool false), (66, iv r13.2), (67, .bool false), (68, .bool false), (69, .bool false), (70, sv 6 r7.1.length ANY), (71, iv (r7.1.length : Int)), (72, iv r15), (73, .bool false), (74, .bool false), (75, .bool false), (76, sv 7 r13.1.length ANY), (77, iv (r13.1.length : Int)), (78, iv r15)])
def S10_6 (r7 r13 : (List (Int × Bool)) × Int) (r15 : Int) : CAct := (st 131 [(7, pt 3 0), (8, pt 4 0), (9, pt 5 0), (10, sv 6 r7.1.length ANY), (11, iv r7.2), (12, sv 7 r13.1.length ANY), (13, iv r13.2), (14, iv r15), (48, .bool (r15 == 0)), (63, iv r7.2), (64, .bool false), (65, .bool false), (66, iv r13.2), (67, .bool false), (68, .bool false), (69, .bool false), (70, sv 6 r7.1.length ANY), (71, iv (r7.1.length : Int)), (72, iv r15)])
def H10_7 (p1 : List I2) (r1 : Int × (List ((Int × Bool) × (Int × Bool)))) (r3 r5 : Int × Bool) (r7 r13 : (List (Int × Bool)) × Int) : List Blk := [ab 84 e84 p1, .dead, ab 86 e86 r1.2, cl 24 [iv r1.1, accV 2 r1.2.length], cl 50 [iv r3.1, .bool r3.2], cl 50 [iv r5.1, .bool r5.2], ab 50 e50 r7.1, ab 50 e50 r13.1]
def S10_8 (r7 r13 : (List (Int × Bool)) × Int) (r15 : Int) : CAct := (st 131 [(7, pt 3 0), (8, pt 4 0), (9, pt 5 0), (10, sv 6 r7.1.length ANY), (11, iv r7.2), (12, sv 7 r13.1.length ANY), (13, iv r13.2), (14, iv r15), (48, .bool (r15 == 0)), (63, iv r7.2), (64, .bool false), (65, .bool false), (66, iv r13.2)])
def S10_9 (r7 : (List (Int × Bool)) × Int) (o111 : Int) (r43 : List Int) (v76 v120 : Int) : CAct := (st 131 [(10, sv 1 r7.1.length ANY), (16, iv o111), (112, accV 2 r43.length), (113, iv (r43.length : Int)), (114, iv v76), (118, sv 1 r7.1.length ANY), (119, iv (r7.1.length : Int)), (120, iv (w64 (v120 + 1)))])
def S10_10 (r7 : (List (Int × Bool)) × Int) (o111 : Int) (r43 : List Int) (v76 v120 : Int) : CAct := (st 131 [(10, sv 1 r7.1.length ANY), (16, iv o111), (112, accV 2 r43.length), (113, iv (r43.length : Int)), (114, iv v76), (118, sv 1 r7.1.length ANY), (119, iv (r7.1.length : Int)), (120, iv v120)])
def S10_11 (r7 : (List (Int × Bool)) × Int) (o111 : Int) (r43 : List Int) (v76 : Int) : CAct := (st 131 [(10, sv 1 r7.1.length ANY), (16, iv o111), (112, accV 2 r43.length), (113, iv (r43.length : Int)), (114, iv v76), (118, sv 1 r7.1.length ANY), (119, iv (r7.1.length : Int)), (120, iv 0)])
def H10_12 (p1 : List I2) (r1 : Int × (List ((Int × Bool) × (Int × Bool)))) (r3 r5 : Int × Bool) (r7 : (List (Int × Bool)) × Int) : List Blk := [ab 84 e84 p1, .dead, ab 86 e86 r1.2, cl 24 [iv r1.1, accV 2 r1.2.length], cl 50 [iv r3.1, .bool r3.2], cl 50 [iv r5.1, .bool r5.2], ab 50 e50 r7.1]
def S10_13 (r7 r13 : (List (Int × Bool)) × Int) (r15 : Int) : CAct := (st 131 [(7, pt 3 0), (8, pt 4 0), (9, pt 5 0), (10, sv 6 r7.1.length ANY), (11, iv r7.2), (12, sv 7 r13.1.length ANY), (13, iv r13.2), (14, iv r15), (48, .bool (r15 == 0)), (63, iv r7.2)])
def H10_14 (p1 : List I2) (r1 : Int × (List ((Int × Bool) × (Int × Bool)))) (r3 : Int × Bool) (r7 : (List (Int × Bool)) × Int) : List Blk := [ab 84 e84 p1, .dead, ab 86 e86 r1.2, cl 24 [iv r1.1, accV 2 r1.2.length], cl 50 [iv r3.1, .bool r3.2], .dead, ab 50 e50 r7.1, .dead]
def H10_15 (p1 : List I2) (r1 : Int × (List ((Int × Bool) × (Int × Bool)))) : List Blk := [ab 84 e84 p1, .dead, ab 86 e86 r1.2, cl 24 [iv r1.1, accV 2 r1.2.length]]
def S10_16 (r7 : (List (Int × Bool)) × Int) (r43 : List Int) (v76 : Int) : CAct := (st 131 [(10, sv 1 r7.1.length ANY), (112, accV 2 r43.length), (113, iv (r43.length : Int)), (114, iv v76)])
def H10_17 (p1 : List I2) (r7 : (List (Int × Bool)) × Int) (r43 : List Int) : List Blk := [ab 84 e84 p1, ab 50 e50 r7.1, ab 3 e3 r43]
def H10_18 (p1 : List I2) (r7 : (List (Int × Bool)) × Int) : List Blk := [ab 84 e84 p1, .dead, .dead, .dead, .dead, .dead, ab 50 e50 r7.1, .dead]
def S10_19 (r7 : (List (Int × Bool)) × Int) : CAct := (st 131 [(7, pt 3 0), (8, pt 4 0), (10, sv 6 r7.1.length ANY), (108, .bool true)])
def H10_20 (r1 : Int × (List ((Int × Bool) × (Int × Bool)))) (r7 : (List (Int × Bool)) × Int) : List Blk := [ab 86 e86 r1.2, ab 50 e50 r7.1]
def S10_21 (r7 r13 : (List (Int × Bool)) × Int) : CAct := (st 131 [(10, sv 6 r7.1.length ANY), (13, iv r13.2), (50, .bool true)])
def S10_22 (r7 r13 : (List (Int × Bool)) × Int) : CAct := (st 131 [(10, sv 6 r7.1.length ANY), (51, .bool true), (52, iv r13.2)])
def H10_23 (p1 : List I2) : List Blk := [ab 84 e84 p1, .dead, .dead, .dead, .dead, .dead, .dead, .dead]
def S10_24 (r7 r13 : (List (Int × Bool)) × Int) : CAct := (st 131 [(10, sv 6 r7.1.length ANY), (13, iv r13.2), (49, iv r7.2)])
def F10l1 (p1 : List I2) (o111 : Int) (r7 : (List (Int × Bool)) × Int) (r43 : List Int) (v76 v120 : Int) : Option (Unit ⊕ Unit) :=
 if decide (v120 < (r7.1.length : Int)) then
  if (0 : Int) ≤ v120 ∧ v120 < (r7.1.length : Int) then
   some (List.getD r7.1 (Int.toNat v120) (0, false)) >>= fun o131 =>
   F47 o131.1 o131.2 o111 >>= fun r133 =>
   if !r133 then
    some (.inl ())
   else
    F10l1 p1 o111 r7 r43 v76 (w64 (v120 + 1))
  else none
 else
  some (.inr ())
 partial_fixpoint
def F10l0 (p1 : List I2) (r7 : (List (Int × Bool)) × Int) (r43 : List Int) (v76 : Int) : Option (Unit ⊕ Unit) :=
 if decide (v76 < (r43.length : Int)) then
  if (0 : Int) ≤ v76 ∧ v76 < (r43.length : Int) then
   some (List.getD r43 (Int.toNat v76) 0) >>= fun o111 =>
   F10l1 p1 o111 r7 r43 v76 0 >>= fun r136 =>
   match r136 with
   | .inl o138 =>
    some (.inl ())
   | .inr o139 =>
    F10l0 p1 r7 r43 (w64 (v76 + 1))
  else none
 else
  some (.inr ())
 partial_fixpoint
def F10 (p0 : Int) (p1 : List I2) (p2 p3 : Int) : Option Bool :=
 F40 p0 p1 >>= fun r1 =>
 F45 r1.1 r1.2 p2 >>= fun r3 =>
 F45 r1.1 r1.2 p3 >>= fun r5 =>
 F28 r1.1 r1.2 r3.1 r3.2 r5.1 r5.2 >>= fun r7 =>
 F43 r5.1 r5.2 >>= fun r9 =>
 F43 r3.1 r3.2 >>= fun r11 =>
 F28 r1.1 r1.2 r9.1 r9.2 r11.1 r11.2 >>= fun r13 =>
 F46 r1.1 r1.2 r3.1 r3.2 r5.1 r5.2 >>= fun r15 =>
 if r15 == 0 then
  (
   if r7.2 == 14 then
    if r13.2 == 14 then
     if (r7.1.length : Int) == 0 then
      F15 >>= fun r21 =>
      some (r21)
     else
      some (false)
    else
     some (false)
   else
    some (false)
  : Option Bool) >>= fun m23 =>
  some m23
 else
  (
   if r7.2 != 0 then
    some (true)
   else
    if r13.2 != 0 then
     some (true)
    else
     if (r7.1.length : Int) != r15 then
      some (true)
     else
      if (r13.1.length : Int) != r15 then
       some (true)
      else
       F42 r1.1 r1.2 r7.1 >>= fun r29 =>
       if !r29 then
        some (true)
       else
        if (0 : Int) ≤ 0 ∧ 0 < (r7.1.length : Int) then
         some (List.getD r7.1 (Int.toNat 0) (0, false)) >>= fun o33 =>
         if !((o33.1 == r3.1) && ((o33.2 == r3.2) && true)) then
          some (true)
         else
          if (0 : Int) ≤ w64 (r15 - 1) ∧ w64 (r15 - 1) < (r7.1.length : Int) then
           some (List.getD r7.1 (Int.toNat (w64 (r15 - 1))) (0, false)) >>= fun o37 =>
           if !((o37.1 == r5.1) && ((o37.2 == r5.2) && true)) then
            some (true)
           else
            F30 r1.1 r1.2 r7.1 >>= fun r40 =>
            some (r40 != 0)
          else none
        else none
  : Option Bool) >>= fun m42 =>
  if m42 then
   some false
  else
   F41 r1.1 r1.2 ([(r3.1, r3.2)]) >>= fun r43 =>
   F10l0 p1 r7 r43 0 >>= fun r140 =>
   match r140 with
   | .inl o142 =>
    some false
   | .inr o143 =>
    F15 >>= fun r144 =>
    some r144
def V10 (b : Nat) (r : Bool) : Value := .bool r
def N10 (b : Nat) (r : Bool) : List Blk := []
def P10l1 (p1 : List I2) (o111 : Int) (r7 : (List (Int × Bool)) × Int) (r43 : List Int) (v76 : Int) (r : Unit ⊕ Unit) : Post := fun e a h => (match r with | .inl q0 => e = .ret ∧ Wk Try.prog 1 1 a h (st 131 [(6, .bool false)]) [ab 84 e84 p1] | .inr q0 => e = .exit 2 ∧ Wk Try.prog 1 1 a h (S10_16 r7 r43 v76) (H10_17 p1 r7 r43))
theorem L10l1 (p1 : List I2) (o111 : Int) (r7 : (List (Int × Bool)) × Int) (r43 : List Int) (v76 v120 : Int) (r : Unit ⊕ Unit) (hF : F10l1 p1 o111 r7 r43 v76 v120 = some r) : TL Try.prog 1 1 c10.s2.s2.s2.s2.s2.s2.s2.s2.s1.s2.bd.bd.s2.s2.s1.bd.s2.s2.bd.bd (S10_10 r7 o111 r43 v76 v120) (H10_17 p1 r7 r43) (P10l1 p1 o111 r7 r43 v76 r) := by
 refine F10l1.partial_correctness p1 o111 r7 r43 v76 (motive := fun v120 r => TL Try.prog 1 1 c10.s2.s2.s2.s2.s2.s2.s2.s2.s1.s2.bd.bd.s2.s2.s1.bd.s2.s2.bd.bd (S10_10 r7 o111 r43 v76 v120) (H10_17 p1 r7 r43) (P10l1 p1 o111 r7 r43 v76 r)) ?_ v120 r hF
 clear hF r v120
 intro again ih v120 r hF
 refine TL.round (TS.sq (TS.rg (TI.ra 1 [10, 16, 112, 113, 114, 118, 119, 120, 121] (st 131 [(10, sv 1 r7.1.length ANY), (16, iv o111), (112, accV 2 r43.length), (113, iv (r43.length : Int)), (114, iv v76), (118, sv 1 r7.1.length ANY), (119, iv (r7.1.length : Int)), (120, iv v120), (121, .bool (decide (v120 < (r7.1.length : Int))))]) (TI.dn (NX.sq (TS.sq ?_))))))
 refine TS.cd (.tmp 121) (decide (v120 < (r7.1.length : Int))) (fun hc129 => ?_) (fun hc129 => ?_)
 · replace hF := of_pos hF hc129
   refine TS.sk (NX.sq (TS.sq (TS.bk 3 (TS.sq ?_))))
   obtain ⟨hg130, hF⟩ := of_guard hF
   obtain ⟨o131, h132, hF⟩ := of_do hF
   replace h132 := sj h132
   refine TS.rg (TI.o { val := .pointer (some ⟨1, 0 + (Int.toNat v120) * 2, none⟩) } (q_ixS 1 0 ((Int.toNat v120) * 2) (by kernel_rfl) hg130) [10, 16, 112, 113, 114, 118, 119, 120, 122] [0, 1, 2] (st 131 [(10, sv 1 r7.1.length ANY), (16, iv o111), (112, accV 2 r43.length), (113, iv (r43.length : Int)), (114, iv v76), (118, sv 1 r7.1.length ANY), (119, iv (r7.1.length : Int)), (120, iv v120), (122, .pointer (some ⟨1, 0 + (Int.toNat v120) * 2, none⟩))]) (H10_17 p1 r7 r43) (TI.o { val := ag [iv o131.1, .bool o131.2] } (q_nAa Try.prog (H10_17 p1 r7 r43) 50 1 (0 + (Int.toNat v120) * 2) r7.1 e50 2 50 (Int.toNat v120) (0, false) h132) [10, 16, 112, 113, 114, 118, 119, 120, 123] [0, 1, 2] (st 131 [(10, sv 1 r7.1.length ANY), (16, iv o111), (112, accV 2 r43.length), (113, iv (r43.length : Int)), (114, iv v76), (118, sv 1 r7.1.length ANY), (119, iv (r7.1.length : Int)), (120, iv v120), (123, ag [iv o131.1, .bool o131.2])]) (H10_17 p1 r7 r43) (TI.rn 2 [10, 16, 18, 112, 113, 114, 118, 119, 120] [0, 1, 2, 3] (st 131 [(10, sv 1 r7.1.length ANY), (16, iv o111), (18, pt 3 0), (112, accV 2 r43.length), (113, iv (r43.length : Int)), (114, iv v76), (118, sv 1 r7.1.length ANY), (119, iv (r7.1.length : Int)), (120, iv v120)]) [ab 84 e84 p1, ab 50 e50 r7.1, ab 3 e3 r43, cl 50 [iv o131.1, .bool o131.2]] (TI.dn (NX.sq (TS.sq ?_))))))
   obtain ⟨r133, h134, hF⟩ := of_do hF
   refine TS.rg (TI.rn 2 [10, 16, 112, 113, 114, 118, 119, 120, 124, 125] [0, 1, 2] (st 131 [(10, sv 1 r7.1.length ANY), (16, iv o111), (112, accV 2 r43.length), (113, iv (r43.length : Int)), (114, iv v76), (118, sv 1 r7.1.length ANY), (119, iv (r7.1.length : Int)), (120, iv v120), (124, ag [iv o131.1, .bool o131.2]), (125, iv o111)]) [ab 84 e84 p1, ab 50 e50 r7.1, ab 3 e3 r43, .dead] (TI.cf (C47 _ _ _ _ h134) (TI.ra 1 [10, 16, 112, 113, 114, 118, 119, 120, 127] (st 131 [(10, sv 1 r7.1.length ANY), (16, iv o111), (112, accV 2 r43.length), (113, iv (r43.length : Int)), (114, iv v76), (118, sv 1 r7.1.length ANY), (119, iv (r7.1.length : Int)), (120, iv v120), (127, .bool (!r133))]) (TI.dn (NX.sq ?_)))))
   refine TS.cd (.tmp 127) (!r133) (fun hc135 => ?_) (fun hc135 => ?_)
   · replace hF := of_pos hF hc135
     refine TS.sq (TS.rg (TI.rn 1 [6] [0] (st 131 [(6, .bool false)]) [ab 84 e84 p1, .dead, .dead, .dead] (TI.dn (NX.sq (TS.rt (NX.bkR (NX.sqR ?_)))))))
     have hF := sj hF
     subst hF
     exact Rd.out (e := .ret) (by intro h; cases h) (And.intro rfl (Wk.an [] (.ac (.nil _)) [.bool false] (.fl .nil)))
   replace hF := of_neg hF hc135
   refine TS.sk (NX.bk (NX.sq (TS.rg (TI.ra 2 [10, 16, 112, 113, 114, 118, 119, 120] (S10_9 r7 o111 r43 v76 v120) (TI.dn ?_)))))
   exact Rd.again (a2 := (S10_9 r7 o111 r43 v76 v120)) (h2 := (H10_17 p1 r7 r43)) (Wk.an [1, 2] (.ac (.ac (.ac (.nil _)))) [sv 1 r7.1.length ANY, iv o111, accV 2 r43.length, iv (r43.length : Int), iv v76, sv 1 r7.1.length ANY, iv (r7.1.length : Int), iv (w64 (v120 + 1))] (.cons (Rn.anyS (nl rfl) rfl (by first | rfl | simp only [List.length_set])) (.fl (.cons (Rn.acc (nl rfl) rfl) (.fl (.fl (.cons (Rn.anyS (nl rfl) rfl (by first | rfl | simp only [List.length_set])) (.fl (.fl .nil))))))))) (ih (w64 (v120 + 1)) _ hF)
 replace hF := of_neg hF hc129
 refine TS.ex 2 (NX.sqX ?_)
 have hF := sj hF
 subst hF
 exact Rd.out (e := .exit 2) (by intro h; cases h) (And.intro rfl (Wk.an [1, 2] (.ac (.ac (.ac (.nil _)))) [sv 1 r7.1.length ANY, accV 2 r43.length, iv (r43.length : Int), iv v76] (.cons (Rn.anyS (nl rfl) rfl (by first | rfl | simp only [List.length_set])) (.cons (Rn.acc (nl rfl) rfl) (.fl (.fl .nil))))))
def P10l0 (p1 : List I2) (r7 : (List (Int × Bool)) × Int) (r43 : List Int) (r : Unit ⊕ Unit) : Post := fun e a h => (match r with | .inl q0 => e = .ret ∧ Wk Try.prog 1 1 a h (st 131 [(6, .bool false)]) [ab 84 e84 p1] | .inr q0 => e = .exit 0 ∧ Wk Try.prog 1 1 a h (st 131 []) [ab 84 e84 p1])
theorem L10l0 (p1 : List I2) (r7 : (List (Int × Bool)) × Int) (r43 : List Int) (v76 : Int) (r : Unit ⊕ Unit) (hF : F10l0 p1 r7 r43 v76 = some r) : TL Try.prog 1 1 c10.s2.s2.s2.s2.s2.s2.s2.s2.s1.s2.bd.bd (S10_16 r7 r43 v76) (H10_17 p1 r7 r43) (P10l0 p1 r7 r43 r) := by
 refine F10l0.partial_correctness p1 r7 r43 (motive := fun v76 r => TL Try.prog 1 1 c10.s2.s2.s2.s2.s2.s2.s2.s2.s1.s2.bd.bd (S10_16 r7 r43 v76) (H10_17 p1 r7 r43) (P10l0 p1 r7 r43 r)) ?_ v76 r hF
 clear hF r v76
 intro again ih v76 r hF
 refine TL.round (TS.sq (TS.rg (TI.ra 1 [10, 112, 113, 114, 115] (st 131 [(10, sv 1 r7.1.length ANY), (112, accV 2 r43.length), (113, iv (r43.length : Int)), (114, iv v76), (115, .bool (decide (v76 < (r43.length : Int))))]) (TI.dn (NX.sq (TS.sq ?_))))))
 refine TS.cd (.tmp 115) (decide (v76 < (r43.length : Int))) (fun hc109 => ?_) (fun hc109 => ?_)
 · replace hF := of_pos hF hc109
   refine TS.sk (NX.sq (TS.sq (TS.bk 1 (TS.sq ?_))))
   obtain ⟨hg110, hF⟩ := of_guard hF
   obtain ⟨o111, h112, hF⟩ := of_do hF
   replace h112 := sj h112
   refine TS.rg (TI.o { val := .pointer (some ⟨2, 0 + (Int.toNat v76) * 1, none⟩) } (q_ixAcc (P := Try.prog) (t := 38) (s := 1) (e := 3) 2 r43.length (by kernel_rfl) hg110 (by kernel_rfl) (by kernel_rfl)) [10, 112, 113, 114, 116] [0, 1, 2] (st 131 [(10, sv 1 r7.1.length ANY), (112, accV 2 r43.length), (113, iv (r43.length : Int)), (114, iv v76), (116, .pointer (some ⟨2, 0 + (Int.toNat v76) * 1, none⟩))]) (H10_17 p1 r7 r43) (TI.o { val := iv o111 } (q_n1a Try.prog (H10_17 p1 r7 r43) 3 2 (0 + (Int.toNat v76) * 1) r43 e3 1 3 (Int.toNat v76) 0 0 h112) [10, 112, 113, 114, 117] [0, 1, 2] (st 131 [(10, sv 1 r7.1.length ANY), (112, accV 2 r43.length), (113, iv (r43.length : Int)), (114, iv v76), (117, iv o111)]) (H10_17 p1 r7 r43) (TI.ra 1 [10, 16, 112, 113, 114] (st 131 [(10, sv 1 r7.1.length ANY), (16, iv o111), (112, accV 2 r43.length), (113, iv (r43.length : Int)), (114, iv v76)]) (TI.dn (NX.sq (TS.sq (TS.rg (TI.ra 3 [10, 16, 112, 113, 114, 118, 119, 120] (S10_11 r7 o111 r43 v76) ?_))))))))
   refine TI.dn (NX.sq (TS.bk 2 ?_))
   obtain ⟨r136, h137, hF⟩ := of_do hF
   refine TS.lp (TL.weak (a2 := (S10_11 r7 o111 r43 v76)) (h2 := (H10_17 p1 r7 r43)) (Wk.an [1, 2] (.ac (.ac (.ac (.nil _)))) [sv 1 r7.1.length ANY, iv o111, accV 2 r43.length, iv (r43.length : Int), iv v76, sv 1 r7.1.length ANY, iv (r7.1.length : Int), iv 0] (.cons (Rn.anyS (nl rfl) rfl (by first | rfl | simp only [List.length_set])) (.fl (.cons (Rn.acc (nl rfl) rfl) (.fl (.fl (.cons (Rn.anyS (nl rfl) rfl (by first | rfl | simp only [List.length_set])) (.fl (.fl .nil))))))))) (TL.post (L10l1 p1 o111 r7 r43 v76 0 r136 h137) ?_))
   rintro e a1 h1 hp
   rcases r136 with o138 | o139
   · skip
     obtain ⟨rfl, hw⟩ := hp
     refine ⟨(st 131 [(6, .bool false)]), [ab 84 e84 p1], (NX.bkR (NX.bkR (NX.sqR ?_))), hw⟩
     have hF := sj hF
     subst hF
     exact Rd.out (e := .ret) (by intro h; cases h) (And.intro rfl (Wk.an [] (.ac (.nil _)) [.bool false] (.fl .nil)))
   skip
   obtain ⟨rfl, hw⟩ := hp
   refine ⟨(S10_16 r7 r43 v76), (H10_17 p1 r7 r43), (NX.bkX (NX.bk (NX.sq (TS.rg (TI.ra 2 [10, 112, 113, 114] (st 131 [(10, sv 1 r7.1.length ANY), (112, accV 2 r43.length), (113, iv (r43.length : Int)), (114, iv (w64 (v76 + 1)))]) (TI.dn ?_)))))), hw⟩
   exact Rd.again (a2 := (st 131 [(10, sv 1 r7.1.length ANY), (112, accV 2 r43.length), (113, iv (r43.length : Int)), (114, iv (w64 (v76 + 1)))])) (h2 := (H10_17 p1 r7 r43)) (Wk.an [1, 2] (.ac (.ac (.ac (.nil _)))) [sv 1 r7.1.length ANY, accV 2 r43.length, iv (r43.length : Int), iv (w64 (v76 + 1))] (.cons (Rn.anyS (nl rfl) rfl (by first | rfl | simp only [List.length_set])) (.cons (Rn.acc (nl rfl) rfl) (.fl (.fl .nil))))) (ih (w64 (v76 + 1)) _ hF)
 replace hF := of_neg hF hc109
 refine TS.ex 0 (NX.sqX ?_)
 have hF := sj hF
 subst hF
 exact Rd.out (e := .exit 0) (by intro h; cases h) (And.intro rfl (Wk.an [] (.ac (.nil _)) [] .nil))
theorem B10 (p0 : Int) (p1 : List I2) (p2 p3 : Int) (r : Bool) (hF : F10 p0 p1 p2 p3 = some r) : TS Try.prog 1 1 c10 (st 131 [(0, ag [.int .u8 p0, sv 0 p1.length ANY]), (1, .int .u8 p2), (2, .int .u8 p3)]) [ab 84 e84 p1] (NX Try.prog 1 1 [] (FinP Try.prog Try.f10 1 (V10 1 r) (N10 1 r))) := by
 unfold F10 at hF
 refine TS.sq (TS.rg (TI.rn 2 [1, 2, 3] [0, 1] (st 131 [(1, .int .u8 p2), (2, .int .u8 p3), (3, pt 1 0)]) [ab 84 e84 p1, cl 71 [.int .u8 p0, sv 0 p1.length ANY]] (TI.dn (NX.sq (TS.sq ?_)))))
 obtain ⟨r1, h2, hF⟩ := of_do hF
 refine TS.rg (TI.rn 1 [1, 2, 19] [0] (st 131 [(1, .int .u8 p2), (2, .int .u8 p3), (19, ag [.int .u8 p0, sv 0 p1.length ANY])]) [ab 84 e84 p1, .dead] (TI.cp 40 [ag [.int .u8 p0, sv 0 p1.length ANY]] (ag [iv r1.1, accV 2 r1.2.length]) [ab 86 e86 r1.2] (PureSim.ren (hc := [ab 84 e84 p1]) (fun i => List.getD [(0, 0)] i (0, 0)) (C40 _ _ _ h2) (.ac (.nil _)) (.cons (Rn.agg' (.fl (.cons (Rn.any _ _ _ _ _ _ (nl rfl) rfl rfl (by decide)) .nil))) .nil) (Rn.agg' (.fl (.cons (Rn.acc (i' := 2) (nl rfl) rfl) .nil))) (newflat_cons (accB_flat (fun _ => rfl)) newflat_nil)) (TI.rn 2 [1, 2, 7] [0, 2, 3] (st 131 [(1, .int .u8 p2), (2, .int .u8 p3), (7, pt 3 0)]) (H10_15 p1 r1) (TI.dn (NX.sq (TS.sq ?_))))))
 obtain ⟨r3, h4, hF⟩ := of_do hF
 obtain ⟨r5, h6, hF⟩ := of_do hF
 have hT : ∀ e ∈ ([⟨45, [ag [iv r1.1, accV 2 r1.2.length], .int .u8 p2], (H10_15 p1 r1), ag [iv r3.1, .bool r3.2], []⟩, ⟨45, [ag [iv r1.1, accV 2 r1.2.length], .int .u8 p3], (H10_15 p1 r1), ag [iv r5.1, .bool r5.2], []⟩] : List Entry), PureSim Try.prog e.g e.args e.h e.v e.new := by
  intro e he
  simp only [List.mem_cons, List.not_mem_nil, or_false] at he
  rcases he with rfl | rfl
  · exact (PureSim.ren (hc := [ab 86 e86 r1.2]) (fun i => List.getD [(2, 0)] i (0, 0)) (C45 _ _ _ _ h4) (.ac (.nil _)) (.cons (Rn.agg' (.fl (.cons (Rn.accA (i' := 2) (nl rfl) rfl) .nil))) (.fl .nil)) (.flat (by kernel_rfl)) newflat_nil)
  exact (PureSim.ren (hc := [ab 86 e86 r1.2]) (fun i => List.getD [(2, 0)] i (0, 0)) (C45 _ _ _ _ h6) (.ac (.nil _)) (.cons (Rn.agg' (.fl (.cons (Rn.accA (i' := 2) (nl rfl) rfl) .nil))) (.fl .nil)) (.flat (by kernel_rfl)) newflat_nil)
 refine TS.dp [⟨45, [ag [iv r1.1, accV 2 r1.2.length], .int .u8 p2], (H10_15 p1 r1), ag [iv r3.1, .bool r3.2], []⟩, ⟨45, [ag [iv r1.1, accV 2 r1.2.length], .int .u8 p3], (H10_15 p1 r1), ag [iv r5.1, .bool r5.2], []⟩] hT mixed 8 [7, 8, 9] [0, 2, 3, 4, 5] (st 131 [(7, pt 3 0), (8, pt 4 0), (9, pt 5 0)]) [ab 84 e84 p1, .dead, ab 86 e86 r1.2, cl 24 [iv r1.1, accV 2 r1.2.length], cl 50 [iv r3.1, .bool r3.2], cl 50 [iv r5.1, .bool r5.2]] ?_ ?_
 · refine QJ.rn (qs (st 131 [(1, .int .u8 p2), (2, .int .u8 p3), (7, pt 3 0), (21, ag [iv r1.1, accV 2 r1.2.length]), (22, .int .u8 p2)]) (H10_15 p1 r1) [] []) 2 (QJ.o { val := ag [iv r3.1, .bool r3.2], new := [] } (qOf_call (g := 45) (args := [ag [iv r1.1, accV 2 r1.2.length], .int .u8 p2]) (by kernel_rfl) lookC_hit) (QJ.rn (qs (st 131 [(1, .int .u8 p2), (2, .int .u8 p3), (7, pt 3 0), (21, ag [iv r1.1, accV 2 r1.2.length]), (22, .int .u8 p2), (23, ag [iv r3.1, .bool r3.2]), (24, ag [iv r1.1, accV 2 r1.2.length]), (25, .int .u8 p3)]) (H10_15 p1 r1) [] []) 2 ?_))
   exact QJ.o { val := ag [iv r5.1, .bool r5.2], new := [] } (qOf_call (g := 45) (args := [ag [iv r1.1, accV 2 r1.2.length], .int .u8 p3]) (by kernel_rfl) (lookC_skip (by intro _ ha hh; first | (exact absurd (congrArg List.length hh) (Nat.ne_of_beq_eq_false rfl)) | (have hr := sj (h4.symm.trans (Eq.trans (congr (congr (congrArg F45 (Eq.refl r1.1)) (Eq.refl r1.2)) (show p2 = p3 from congrArg (fun l => leafI 0 [argV 1 l]) ha)) h6)); first | (subst hr; rfl) | (cases hr; done) | (cases hr; rfl))) lookC_hit)) (QJ.rn (qs (st 131 [(1, .int .u8 p2), (2, .int .u8 p3), (7, pt 3 0), (8, pt 4 0), (9, pt 5 0), (21, ag [iv r1.1, accV 2 r1.2.length]), (22, .int .u8 p2), (23, ag [iv r3.1, .bool r3.2]), (24, ag [iv r1.1, accV 2 r1.2.length]), (25, .int .u8 p3), (26, ag [iv r5.1, .bool r5.2])]) [ab 84 e84 p1, .dead, ab 86 e86 r1.2, cl 24 [iv r1.1, accV 2 r1.2.length], cl 50 [iv 0, .bool false], cl 50 [iv 0, .bool false]] [(7, 5, 6), (6, 4, 5)] []) 2 (QJ.dn ⟨rfl, SJ.la⟩))
 refine TS.sq ?_
 obtain ⟨r7, h8, hF⟩ := of_do hF
 refine TS.rg (TI.ra 3 [7, 8, 9, 28, 29, 30] (st 131 [(7, pt 3 0), (8, pt 4 0), (9, pt 5 0), (28, ag [iv r1.1, accV 2 r1.2.length]), (29, ag [iv r3.1, .bool r3.2]), (30, ag [iv r5.1, .bool r5.2])]) (TI.cp 28 [ag [iv r1.1, accV 2 r1.2.length], ag [iv r3.1, .bool r3.2], ag [iv r5.1, .bool r5.2]] (.tuple ⟨[sv 6 r7.1.length ANY, iv r7.2]⟩) [ab 50 e50 r7.1] (PureSim.ren (hc := [ab 86 e86 r1.2]) (fun i => List.getD [(2, 0)] i (0, 0)) (C28 _ _ _ _ _ _ _ h8) (.ac (.nil _)) (.cons (Rn.agg' (.fl (.cons (Rn.accA (i' := 2) (nl rfl) rfl) .nil))) (.fl (.fl .nil))) (Rn.tuple' (.cons (Rn.anyS (i' := 6) (nl rfl) rfl rfl) (.fl .nil))) (newflat_cons (accB_flat (fun _ => rfl)) newflat_nil)) (TI.rn 5 [7, 8, 9, 10, 11] [0, 2, 3, 4, 5, 6] (st 131 [(7, pt 3 0), (8, pt 4 0), (9, pt 5 0), (10, sv 6 r7.1.length ANY), (11, iv r7.2)]) (H10_12 p1 r1 r3 r5 r7) (TI.dn (NX.sq (TS.sq ?_))))))
 obtain ⟨r9, h10, hF⟩ := of_do hF
 obtain ⟨r11, h12, hF⟩ := of_do hF
 obtain ⟨r13, h14, hF⟩ := of_do hF
 have hT : ∀ e ∈ ([⟨43, [ag [iv r5.1, .bool r5.2]], (H10_12 p1 r1 r3 r5 r7), ag [iv r9.1, .bool r9.2], []⟩, ⟨43, [ag [iv r3.1, .bool r3.2]], (H10_12 p1 r1 r3 r5 r7), ag [iv r11.1, .bool r11.2], []⟩, ⟨28, [ag [iv r1.1, accV 2 r1.2.length], ag [iv r9.1, .bool r9.2], ag [iv r11.1, .bool r11.2]], (H10_12 p1 r1 r3 r5 r7), .tuple ⟨[sv 7 r13.1.length ANY, iv r13.2]⟩, [ab 50 e50 r13.1]⟩] : List Entry), PureSim Try.prog e.g e.args e.h e.v e.new := by
  intro e he
  simp only [List.mem_cons, List.not_mem_nil, or_false] at he
  rcases he with rfl | rfl | rfl
  · exact PureSim.ak (C43 _ _ _ h10)
  · exact PureSim.ak (C43 _ _ _ h12)
  exact (PureSim.ren (hc := [ab 86 e86 r1.2]) (fun i => List.getD [(2, 0)] i (0, 0)) (C28 _ _ _ _ _ _ _ h14) (.ac (.nil _)) (.cons (Rn.agg' (.fl (.cons (Rn.accA (i' := 2) (nl rfl) rfl) .nil))) (.fl (.fl .nil))) (Rn.tuple' (.cons (Rn.anyS (i' := 7) (nl rfl) rfl rfl) (.fl .nil))) (newflat_cons (accB_flat (fun _ => rfl)) newflat_nil))
 refine TS.dp [⟨43, [ag [iv r5.1, .bool r5.2]], (H10_12 p1 r1 r3 r5 r7), ag [iv r9.1, .bool r9.2], []⟩, ⟨43, [ag [iv r3.1, .bool r3.2]], (H10_12 p1 r1 r3 r5 r7), ag [iv r11.1, .bool r11.2], []⟩, ⟨28, [ag [iv r1.1, accV 2 r1.2.length], ag [iv r9.1, .bool r9.2], ag [iv r11.1, .bool r11.2]], (H10_12 p1 r1 r3 r5 r7), .tuple ⟨[sv 7 r13.1.length ANY, iv r13.2]⟩, [ab 50 e50 r13.1]⟩] hT mixed 10 [7, 8, 9, 10, 11, 12, 13] [0, 2, 3, 4, 5, 6, 7] (st 131 [(7, pt 3 0), (8, pt 4 0), (9, pt 5 0), (10, sv 6 r7.1.length ANY), (11, iv r7.2), (12, sv 7 r13.1.length ANY), (13, iv r13.2)]) (H10_7 p1 r1 r3 r5 r7 r13) ?_ ?_
 · refine QJ.rn (qs (st 131 [(7, pt 3 0), (8, pt 4 0), (9, pt 5 0), (10, sv 6 r7.1.length ANY), (11, iv r7.2), (35, ag [iv r1.1, accV 2 r1.2.length]), (36, ag [iv r5.1, .bool r5.2])]) (H10_12 p1 r1 r3 r5 r7) [] []) 2 (QJ.o { val := ag [iv r9.1, .bool r9.2], new := [] } (qOf_call (g := 43) (args := [ag [iv r5.1, .bool r5.2]]) (by kernel_rfl) lookC_hit) (QJ.rn (qs (st 131 [(7, pt 3 0), (8, pt 4 0), (9, pt 5 0), (10, sv 6 r7.1.length ANY), (11, iv r7.2), (35, ag [iv r1.1, accV 2 r1.2.length]), (36, ag [iv r5.1, .bool r5.2]), (37, ag [iv r9.1, .bool r9.2]), (38, ag [iv r3.1, .bool r3.2])]) (H10_12 p1 r1 r3 r5 r7) [] []) 1 ?_))
   exact QJ.o { val := ag [iv r11.1, .bool r11.2], new := [] } (qOf_call (g := 43) (args := [ag [iv r3.1, .bool r3.2]]) (by kernel_rfl) (lookC_skip (by intro _ ha hh; first | (exact absurd (congrArg List.length hh) (Nat.ne_of_beq_eq_false rfl)) | (have hr := sj (h10.symm.trans (Eq.trans (congr (congrArg F43 (show r5.1 = r3.1 from congrArg (leafI 0) ha)) (show r5.2 = r3.2 from congrArg (leafB 1) ha)) h12)); first | (subst hr; rfl) | (cases hr; done) | (cases hr; rfl))) lookC_hit)) (QJ.o { val := .tuple ⟨[sv 7 r13.1.length ANY, iv r13.2]⟩, new := [ab 50 e50 r13.1] } (qOf_call (g := 28) (args := [ag [iv r1.1, accV 2 r1.2.length], ag [iv r9.1, .bool r9.2], ag [iv r11.1, .bool r11.2]]) (by kernel_rfl) (lookC_skip (fun hg => absurd (show (43 : Nat) = 28 from hg) (by decide)) (lookC_skip (fun hg => absurd (show (43 : Nat) = 28 from hg) (by decide)) lookC_hit))) (QJ.rn (qs (st 131 [(7, pt 3 0), (8, pt 4 0), (9, pt 5 0), (10, sv 6 r7.1.length ANY), (11, iv r7.2), (12, sv 7 r13.1.length ANY), (34, .tuple ⟨[sv 7 r13.1.length ANY, iv r13.2]⟩), (35, ag [iv r1.1, accV 2 r1.2.length]), (36, ag [iv r5.1, .bool r5.2]), (37, ag [iv r9.1, .bool r9.2]), (38, ag [iv r3.1, .bool r3.2]), (39, ag [iv r11.1, .bool r11.2]), (40, .tuple ⟨[sv 7 r13.1.length ANY, iv r13.2]⟩), (41, sv 7 r13.1.length ANY), (42, iv r13.2)]) (H10_7 p1 r1 r3 r5 r7 r13) [(5, 7, 8)] []) 4 (QJ.dn ⟨rfl, SJ.la⟩)))
 refine TS.sq ?_
 obtain ⟨r15, h16, hF⟩ := of_do hF
 refine TS.rg (TI.ra 3 [7, 8, 9, 10, 11, 12, 13, 43, 44, 45] (st 131 [(7, pt 3 0), (8, pt 4 0), (9, pt 5 0), (10, sv 6 r7.1.length ANY), (11, iv r7.2), (12, sv 7 r13.1.length ANY), (13, iv r13.2), (43, ag [iv r1.1, accV 2 r1.2.length]), (44, ag [iv r3.1, .bool r3.2]), (45, ag [iv r5.1, .bool r5.2])]) (TI.cp 46 [ag [iv r1.1, accV 2 r1.2.length], ag [iv r3.1, .bool r3.2], ag [iv r5.1, .bool r5.2]] (iv r15) [] (PureSim.ren (hc := [ab 86 e86 r1.2]) (fun i => List.getD [(2, 0)] i (0, 0)) (C46 _ _ _ _ _ _ _ h16) (.ac (.nil _)) (.cons (Rn.agg' (.fl (.cons (Rn.accA (i' := 2) (nl rfl) rfl) .nil))) (.fl (.fl .nil))) (.flat (by kernel_rfl)) newflat_nil) (TI.ra 1 [7, 8, 9, 10, 11, 12, 13, 14] (st 131 [(7, pt 3 0), (8, pt 4 0), (9, pt 5 0), (10, sv 6 r7.1.length ANY), (11, iv r7.2), (12, sv 7 r13.1.length ANY), (13, iv r13.2), (14, iv r15)]) (TI.dn (NX.sq (TS.sq (TS.sq (TS.rg ?_))))))))
 refine TI.ra 2 [7, 8, 9, 10, 11, 12, 13, 14, 48] (st 131 [(7, pt 3 0), (8, pt 4 0), (9, pt 5 0), (10, sv 6 r7.1.length ANY), (11, iv r7.2), (12, sv 7 r13.1.length ANY), (13, iv r13.2), (14, iv r15), (48, .bool (r15 == 0))]) (TI.dn (NX.sq ?_))
 refine TS.cd (.tmp 48) (r15 == 0) (fun hc17 => ?_) (fun hc17 => ?_)
 · replace hF := of_pos hF hc17
   refine TS.sq ?_
   obtain ⟨m23, hm24, hF⟩ := of_do hF
   have hK : NX Try.prog 1 1 [.sq c10.s2.s2.s2.s2.s2.s2.s1.s2.th.s2, .sq c10.s2.s2.s2.s2.s2.s2.s2] (FinP Try.prog Try.f10 1 (V10 1 r) (N10 1 r)) .normal (st 131 [(6, .bool m23)]) (H10_23 p1) := by
    refine NX.sq (TS.rt (NX.sqR ?_))
    have hF := sj hF
    subst hF
    exact ⟨.inr rfl, rfl, .bool m23, by kernel_rfl, WkV.flat0 (by kernel_rfl) (nl rfl)⟩
   rcases Bool.eq_false_or_eq_true (r7.2 == 14) with hc18 | hc18
   · replace hm24 := of_pos hm24 hc18
     rcases Bool.eq_false_or_eq_true (r13.2 == 14) with hc19 | hc19
     · replace hm24 := of_pos hm24 hc19
       rcases Bool.eq_false_or_eq_true ((r7.1.length : Int) == 0) with hc20 | hc20
       · replace hm24 := of_pos hm24 hc20
         have hX := of_do hm24
         clear hm24
         obtain ⟨r21, h22, hm24⟩ := hX
         have hm24 := sj hm24
         subst hm24
         refine TS.rg (TI.rn 1 [10, 13, 49] [0, 6] (S10_24 r7 r13) (H10_18 p1 r7) (TI.o { val := .bool true } (q_conv (e := r7.2 == 14) (b := true) (by kernel_rfl) hc18) [10, 13, 50] [0, 6] (S10_21 r7 r13) (H10_18 p1 r7) (TI.ra 2 [10, 51, 52] (S10_22 r7 r13) (TI.o { val := .bool true } (q_conv (e := r13.2 == 14) (b := true) (by kernel_rfl) hc19) [10, 51, 53] [0, 6] (st 131 [(10, sv 6 r7.1.length ANY), (51, .bool true), (53, .bool true)]) (H10_18 p1 r7) (TI.rn 4 [55, 57] [0] (st 131 [(55, .bool true), (57, iv (r7.1.length : Int))]) (H10_23 p1) (TI.o { val := .bool true } (q_conv (e := (r7.1.length : Int) == 0) (b := true) (by kernel_rfl) hc20) [55, 58] [0] (st 131 [(55, .bool true), (58, .bool true)]) (H10_23 p1) (TI.ra 2 [60] (st 131 [(60, .bool true)]) (TI.cf (C15 _ h22) ?_))))))))
         exact TI.ra 2 [6] (st 131 [(6, .bool r21)]) (TI.dn hK)
       replace hm24 := of_neg hm24 hc20
       have hm24 := sj hm24
       subst hm24
       refine TS.rg (TI.rn 1 [10, 13, 49] [0, 6] (S10_24 r7 r13) (H10_18 p1 r7) (TI.o { val := .bool true } (q_conv (e := r7.2 == 14) (b := true) (by kernel_rfl) hc18) [10, 13, 50] [0, 6] (S10_21 r7 r13) (H10_18 p1 r7) (TI.ra 2 [10, 51, 52] (S10_22 r7 r13) (TI.o { val := .bool true } (q_conv (e := r13.2 == 14) (b := true) (by kernel_rfl) hc19) [10, 51, 53] [0, 6] (st 131 [(10, sv 6 r7.1.length ANY), (51, .bool true), (53, .bool true)]) (H10_18 p1 r7) (TI.rn 4 [55, 57] [0] (st 131 [(55, .bool true), (57, iv (r7.1.length : Int))]) (H10_23 p1) (TI.o { val := .bool false } (q_conv (e := (r7.1.length : Int) == 0) (b := false) (by kernel_rfl) hc20) [55, 58] [0] (st 131 [(55, .bool true), (58, .bool false)]) (H10_23 p1) (TI.ra 5 [6] (st 131 [(6, .bool false)]) (TI.dn ?_))))))))
       exact hK
     replace hm24 := of_neg hm24 hc19
     have hm24 := sj hm24
     subst hm24
     exact TS.rg (TI.rn 1 [10, 13, 49] [0, 6] (S10_24 r7 r13) (H10_18 p1 r7) (TI.o { val := .bool true } (q_conv (e := r7.2 == 14) (b := true) (by kernel_rfl) hc18) [10, 13, 50] [0, 6] (S10_21 r7 r13) (H10_18 p1 r7) (TI.ra 2 [10, 51, 52] (S10_22 r7 r13) (TI.o { val := .bool false } (q_conv (e := r13.2 == 14) (b := false) (by kernel_rfl) hc19) [10, 51, 53] [0, 6] (st 131 [(10, sv 6 r7.1.length ANY), (51, .bool true), (53, .bool false)]) (H10_18 p1 r7) (TI.rn 10 [6] [0] (st 131 [(6, .bool false)]) (H10_23 p1) (TI.dn hK))))))
   replace hm24 := of_neg hm24 hc18
   have hm24 := sj hm24
   subst hm24
   exact TS.rg (TI.rn 1 [10, 13, 49] [0, 6] (S10_24 r7 r13) (H10_18 p1 r7) (TI.o { val := .bool false } (q_conv (e := r7.2 == 14) (b := false) (by kernel_rfl) hc18) [10, 13, 50] [0, 6] (st 131 [(10, sv 6 r7.1.length ANY), (13, iv r13.2), (50, .bool false)]) (H10_18 p1 r7) (TI.rn 13 [6] [0] (st 131 [(6, .bool false)]) (H10_23 p1) (TI.dn hK))))
 replace hF := of_neg hF hc17
 refine TS.sk (NX.sq (TS.sq (TS.sq ?_)))
 obtain ⟨m42, hm146, hF⟩ := of_do hF
 have hK : NX Try.prog 1 1 [.sq c10.s2.s2.s2.s2.s2.s2.s2.s1.s2, .sq c10.s2.s2.s2.s2.s2.s2.s2.s2] (FinP Try.prog Try.f10 1 (V10 1 r) (N10 1 r)) .normal (st 131 [(7, pt 3 0), (8, pt 4 0), (10, sv 6 r7.1.length ANY), (108, .bool m42)]) (H10_14 p1 r1 r3 r7) := by
  refine NX.sq ?_
  cases m42 with
  | true =>
   replace hF := of_pos hF rfl
   refine TS.cdT (.tmp 108) (TS.sq (TS.rg (TI.rn 1 [6] [0] (st 131 [(6, .bool false)]) (H10_23 p1) (TI.dn (NX.sq (TS.rt (NX.sqR ?_)))))))
   have hF := sj hF
   subst hF
   exact ⟨.inr rfl, rfl, .bool false, by kernel_rfl, WkV.flat0 (by kernel_rfl) (nl rfl)⟩
  | false =>
   replace hF := of_neg hF rfl
   refine TS.cdF (.tmp 108) (TS.sk (NX.sq (TS.sq (TS.sq ?_))))
   obtain ⟨r43, h44, hF⟩ := of_do hF
   refine TS.rg (TI.rn 3 [10, 109, 111] [0, 2, 6, 8] (st 131 [(10, sv 6 r7.1.length ANY), (109, ag [iv r1.1, accV 2 r1.2.length]), (111, sv 8 1 1)]) [ab 84 e84 p1, .dead, ab 86 e86 r1.2, .dead, .dead, .dead, ab 50 e50 r7.1, .dead, cl 50 [iv r3.1, .bool r3.2]] (TI.cp 41 [ag [iv r1.1, accV 2 r1.2.length], sv 8 1 1] (accV 9 r43.length) [ab 3 e3 r43] (PureSim.ren (hc := [ab 86 e86 r1.2, accB 50 (List.length ([(r3.1, r3.2)])) (List.flatMap e50 ([(r3.1, r3.2)]))]) (fun i => List.getD [(2, 0), (8, 0)] i (0, 0)) (C41 _ _ _ _ h44) (.ac (.cons (At.accU (by kernel_rfl) rfl (fun _ => rfl)) (.nil _))) (.cons (Rn.agg' (.fl (.cons (Rn.accA (i' := 2) (nl rfl) rfl) .nil))) (.cons (Rn.any _ _ _ _ _ _ (nl rfl) rfl rfl (by decide)) .nil)) (Rn.acc (i' := 9) (nl rfl) rfl) (newflat_cons (accB_flat (fun _ => rfl)) newflat_nil)) (TI.rn 2 [10, 112, 113, 114] [0, 6, 9] (st 131 [(10, sv 6 r7.1.length ANY), (112, accV 9 r43.length), (113, iv (r43.length : Int)), (114, iv 0)]) [ab 84 e84 p1, .dead, .dead, .dead, .dead, .dead, ab 50 e50 r7.1, .dead, .dead, ab 3 e3 r43] (TI.dn (NX.sq (TS.bk 0 ?_))))))
   obtain ⟨r140, h141, hF⟩ := of_do hF
   refine TS.lp (TL.weak (a2 := (st 131 [(10, sv 1 r7.1.length ANY), (112, accV 2 r43.length), (113, iv (r43.length : Int)), (114, iv 0)])) (h2 := (H10_17 p1 r7 r43)) (Wk.an [6, 9] (.ac (.ac (.ac (.nil _)))) [sv 6 r7.1.length ANY, accV 9 r43.length, iv (r43.length : Int), iv 0] (.cons (Rn.anyS (nl rfl) rfl (by first | rfl | simp only [List.length_set])) (.cons (Rn.acc (nl rfl) rfl) (.fl (.fl .nil))))) (TL.post (L10l0 p1 r7 r43 0 r140 h141) ?_))
   rintro e a1 h1 hp
   rcases r140 with o142 | o143
   · skip
     obtain ⟨rfl, hw⟩ := hp
     refine ⟨(st 131 [(6, .bool false)]), [ab 84 e84 p1], (NX.bkR (NX.sqR ?_)), hw⟩
     have hF := sj hF
     subst hF
     exact ⟨.inr rfl, rfl, .bool false, by kernel_rfl, WkV.flat0 (by kernel_rfl) (nl rfl)⟩
   skip
   obtain ⟨rfl, hw⟩ := hp
   refine ⟨(st 131 []), [ab 84 e84 p1], (NX.bkX (NX.sq (TS.sq ?_))), hw⟩
   obtain ⟨r144, h145, hF⟩ := of_do hF
   refine TS.rg (TI.cf (C15 _ h145) (TI.ra 1 [6] (st 131 [(6, .bool r144)]) (TI.dn (NX.sq (TS.rt ?_)))))
   have hF := sj hF
   subst hF
   exact ⟨.inr rfl, rfl, .bool r144, by kernel_rfl, WkV.flat0 (by kernel_rfl) (nl rfl)⟩
 rcases Bool.eq_false_or_eq_true (r7.2 != 0) with hc25 | hc25
 · replace hm146 := of_pos hm146 hc25
   have hm146 := sj hm146
   subst hm146
   refine TS.dp [] (fun e he => by cases he) mixed 43 [7, 8, 10, 108] [0, 2, 3, 4, 6] (S10_19 r7) (H10_14 p1 r1 r3 r7) ?_ ?_
   · exact QJ.rn (qs (S10_13 r7 r13 r15) (H10_7 p1 r1 r3 r5 r7 r13) [] []) 1 (QJ.o { val := .bool true } (q_conv (e := r7.2 != 0) (b := true) (by kernel_rfl) hc25) (QJ.rn (qs (st 131 [(7, pt 3 0), (8, pt 4 0), (9, pt 5 0), (10, sv 6 r7.1.length ANY), (11, iv r7.2), (12, sv 7 r13.1.length ANY), (13, iv r13.2), (14, iv r15), (48, .bool (r15 == 0)), (63, iv r7.2), (64, .bool true), (65, .bool true), (66, undef), (67, undef), (68, .bool true), (69, .bool true), (70, undef), (71, undef), (72, undef), (73, undef), (74, .bool true), (75, .bool true), (76, undef), (77, undef), (78, undef), (79, undef), (80, .bool true), (81, .bool true), (82, undef), (83, undef), (84, undef), (85, undef), (86, .bool true), (87, .bool true), (88, undef), (89, undef), (90, undef), (91, undef), (92, undef), (93, .bool true), (94, .bool true), (95, undef), (96, undef), (97, undef), (98, undef), (99, undef), (100, undef), (101, undef), (102, .bool true), (103, .bool true), (104, undef), (105, undef)]) (H10_7 p1 r1 r3 r5 r7 r13) [] []) 41 (QJ.dn ⟨rfl, SJ.la⟩)))
   exact hK
 replace hm146 := of_neg hm146 hc25
 rcases Bool.eq_false_or_eq_true (r13.2 != 0) with hc26 | hc26
 · replace hm146 := of_pos hm146 hc26
   have hm146 := sj hm146
   subst hm146
   refine TS.dp [] (fun e he => by cases he) mixed 43 [7, 8, 10, 108] [0, 2, 3, 4, 6] (S10_19 r7) (H10_14 p1 r1 r3 r7) ?_ ?_
   · exact QJ.rn (qs (S10_13 r7 r13 r15) (H10_7 p1 r1 r3 r5 r7 r13) [] []) 1 (QJ.o { val := .bool false } (q_conv (e := r7.2 != 0) (b := false) (by kernel_rfl) hc25) (QJ.rn (qs (S10_8 r7 r13 r15) (H10_7 p1 r1 r3 r5 r7 r13) [] []) 2 (QJ.o { val := .bool true } (q_conv (e := r13.2 != 0) (b := true) (by kernel_rfl) hc26) (QJ.rn (qs (st 131 [(7, pt 3 0), (8, pt 4 0), (9, pt 5 0), (10, sv 6 r7.1.length ANY), (11, iv r7.2), (12, sv 7 r13.1.length ANY), (13, iv r13.2), (14, iv r15), (48, .bool (r15 == 0)), (63, iv r7.2), (64, .bool false), (65, .bool false), (66, iv r13.2), (67, .bool true), (68, .bool true), (69, .bool true), (70, undef), (71, undef), (72, undef), (73, undef), (74, .bool true), (75, .bool true), (76, undef), (77, undef), (78, undef), (79, undef), (80, .bool true), (81, .bool true), (82, undef), (83, undef), (84, undef), (85, undef), (86, .bool true), (87, .bool true), (88, undef), (89, undef), (90, undef), (91, undef), (92, undef), (93, .bool true), (94, .bool true), (95, undef), (96, undef), (97, undef), (98, undef), (99, undef), (100, undef), (101, undef), (102, .bool true), (103, .bool true), (104, undef), (105, undef)]) (H10_7 p1 r1 r3 r5 r7 r13) [] []) 38 (QJ.dn ⟨rfl, SJ.la⟩)))))
   exact hK
 replace hm146 := of_neg hm146 hc26
 rcases Bool.eq_false_or_eq_true ((r7.1.length : Int) != r15) with hc27 | hc27
 · replace hm146 := of_pos hm146 hc27
   have hm146 := sj hm146
   subst hm146
   refine TS.dp [] (fun e he => by cases he) mixed 43 [7, 8, 10, 108] [0, 2, 3, 4, 6] (S10_19 r7) (H10_14 p1 r1 r3 r7) ?_ ?_
   · exact QJ.rn (qs (S10_13 r7 r13 r15) (H10_7 p1 r1 r3 r5 r7 r13) [] []) 1 (QJ.o { val := .bool false } (q_conv (e := r7.2 != 0) (b := false) (by kernel_rfl) hc25) (QJ.rn (qs (S10_8 r7 r13 r15) (H10_7 p1 r1 r3 r5 r7 r13) [] []) 2 (QJ.o { val := .bool false } (q_conv (e := r13.2 != 0) (b := false) (by kernel_rfl) hc26) (QJ.rn (qs (S10_6 r7 r13 r15) (H10_7 p1 r1 r3 r5 r7 r13) [] []) 5 (QJ.o { val := .bool true } (q_conv (e := (r7.1.length : Int) != r15) (b := true) (by kernel_rfl) hc27) (QJ.rn (qs (st 131 [(7, pt 3 0), (8, pt 4 0), (9, pt 5 0), (10, sv 6 r7.1.length ANY), (11, iv r7.2), (12, sv 7 r13.1.length ANY), (13, iv r13.2), (14, iv r15), (48, .bool (r15 == 0)), (63, iv r7.2), (64, .bool false), (65, .bool false), (66, iv r13.2), (67, .bool false), (68, .bool false), (69, .bool false), (70, sv 6 r7.1.length ANY), (71, iv (r7.1.length : Int)), (72, iv r15), (73, .bool true), (74, .bool true), (75, .bool true), (76, undef), (77, undef), (78, undef), (79, undef), (80, .bool true), (81, .bool true), (82, undef), (83, undef), (84, undef), (85, undef), (86, .bool true), (87, .bool true), (88, undef), (89, undef), (90, undef), (91, undef), (92, undef), (93, .bool true), (94, .bool true), (95, undef), (96, undef), (97, undef), (98, undef), (99, undef), (100, undef), (101, undef), (102, .bool true), (103, .bool true), (104, undef), (105, undef)]) (H10_7 p1 r1 r3 r5 r7 r13) [] []) 32 (QJ.dn ⟨rfl, SJ.la⟩)))))))
   exact hK
 replace hm146 := of_neg hm146 hc27
 rcases Bool.eq_false_or_eq_true ((r13.1.length : Int) != r15) with hc28 | hc28
 · replace hm146 := of_pos hm146 hc28
   have hm146 := sj hm146
   subst hm146
   refine TS.dp [] (fun e he => by cases he) mixed 43 [7, 8, 10, 108] [0, 2, 3, 4, 6] (S10_19 r7) (H10_14 p1 r1 r3 r7) ?_ ?_
   · refine QJ.rn (qs (S10_13 r7 r13 r15) (H10_7 p1 r1 r3 r5 r7 r13) [] []) 1 (QJ.o { val := .bool false } (q_conv (e := r7.2 != 0) (b := false) (by kernel_rfl) hc25) (QJ.rn (qs (S10_8 r7 r13 r15) (H10_7 p1 r1 r3 r5 r7 r13) [] []) 2 (QJ.o { val := .bool false } (q_conv (e := r13.2 != 0) (b := false) (by kernel_rfl) hc26) (QJ.rn (qs (S10_6 r7 r13 r15) (H10_7 p1 r1 r3 r5 r7 r13) [] []) 5 (QJ.o { val := .bool false } (q_conv (e := (r7.1.length : Int) != r15) (b := false) (by kernel_rfl) hc27) (QJ.rn (qs (S10_5 r7 r13 r15) (H10_7 p1 r1 r3 r5 r7 r13) [] []) 5 (QJ.o { val := .bool true } (q_conv (e := (r13.1.length : Int) != r15) (b := true) (by kernel_rfl) hc28) (QJ.rn (qs (st 131 [(7, pt 3 0), (8, pt 4 0), (9, pt 5 0), (10, sv 6 r7.1.length ANY), (11, iv r7.2), (12, sv 7 r13.1.length ANY), (13, iv r13.2), (14, iv r15), (48, .bool (r15 == 0)), (63, iv r7.2), (64, .bool false), (65, .bool false), (66, iv r13.2), (67, .bool false), (68, .bool false), (69, .bool false), (70, sv 6 r7.1.length ANY), (71, iv (r7.1.length : Int)), (72, iv r15), (73, .bool false), (74, .bool false), (75, .bool false), (76, sv 7 r13.1.length ANY), (77, iv (r13.1.length : Int)), (78, iv r15), (79, .bool true), (80, .bool true), (81, .bool true), (82, undef), (83, undef), (84, undef), (85, undef), (86, .bool true), (87, .bool true), (88, undef), (89, undef), (90, undef), (91, undef), (92, undef), (93, .bool true), (94, .bool true), (95, undef), (96, undef), (97, undef), (98, undef), (99, undef), (100, undef), (101, undef), (102, .bool true), (103, .bool true), (104, undef), (105, undef)]) (H10_7 p1 r1 r3 r5 r7 r13) [] []) 26 ?_))))))))
     exact QJ.dn ⟨rfl, SJ.la⟩
   exact hK
 replace hm146 := of_neg hm146 hc28
 have hX := of_do hm146
 clear hm146
 obtain ⟨r29, h30, hm146⟩ := hX
 rcases Bool.eq_false_or_eq_true (!r29) with hc31 | hc31
 · replace hm146 := of_pos hm146 hc31
   have hm146 := sj hm146
   subst hm146
   have hT : ∀ e ∈ ([⟨42, [ag [iv r1.1, accV 2 r1.2.length], sv 6 r7.1.length ANY], (H10_7 p1 r1 r3 r5 r7 r13), .bool r29, []⟩] : List Entry), PureSim Try.prog e.g e.args e.h e.v e.new := by
    intro e he
    simp only [List.mem_cons, List.not_mem_nil, or_false] at he
    rcases he with rfl
    exact (PureSim.ren (hc := (H10_20 r1 r7)) (fun i => List.getD [(2, 0), (6, 0)] i (0, 0)) (C42 _ _ _ _ h30) (.ac (.ac (.nil _))) (.cons (Rn.agg' (.fl (.cons (Rn.accA (i' := 2) (nl rfl) rfl) .nil))) (.cons (Rn.any _ _ _ _ _ _ (nl rfl) rfl rfl (by decide)) .nil)) (.flat (by kernel_rfl)) newflat_nil)
   refine TS.dp [⟨42, [ag [iv r1.1, accV 2 r1.2.length], sv 6 r7.1.length ANY], (H10_7 p1 r1 r3 r5 r7 r13), .bool r29, []⟩] hT mixed 43 [7, 8, 10, 108] [0, 2, 3, 4, 6] (S10_19 r7) (H10_14 p1 r1 r3 r7) ?_ ?_
   · refine QJ.rn (qs (S10_13 r7 r13 r15) (H10_7 p1 r1 r3 r5 r7 r13) [] []) 1 (QJ.o { val := .bool false } (q_conv (e := r7.2 != 0) (b := false) (by kernel_rfl) hc25) (QJ.rn (qs (S10_8 r7 r13 r15) (H10_7 p1 r1 r3 r5 r7 r13) [] []) 2 (QJ.o { val := .bool false } (q_conv (e := r13.2 != 0) (b := false) (by kernel_rfl) hc26) (QJ.rn (qs (S10_6 r7 r13 r15) (H10_7 p1 r1 r3 r5 r7 r13) [] []) 5 (QJ.o { val := .bool false } (q_conv (e := (r7.1.length : Int) != r15) (b := false) (by kernel_rfl) hc27) (QJ.rn (qs (S10_5 r7 r13 r15) (H10_7 p1 r1 r3 r5 r7 r13) [] []) 5 (QJ.o { val := .bool false } (q_conv (e := (r13.1.length : Int) != r15) (b := false) (by kernel_rfl) hc28) (QJ.rn (qs (S10_4 r7 r13 r15 r1) (H10_7 p1 r1 r3 r5 r7 r13) [] []) 4 ?_))))))))
     exact QJ.o { val := .bool r29, new := [] } (qOf_call (g := 42) (args := [ag [iv r1.1, accV 2 r1.2.length], sv 6 r7.1.length ANY]) (by kernel_rfl) lookC_hit) (QJ.o { val := .bool true } (q_conv (e := !r29) (b := true) (by kernel_rfl) hc31) (QJ.rn (qs (st 131 [(7, pt 3 0), (8, pt 4 0), (9, pt 5 0), (10, sv 6 r7.1.length ANY), (11, iv r7.2), (12, sv 7 r13.1.length ANY), (13, iv r13.2), (14, iv r15), (48, .bool (r15 == 0)), (63, iv r7.2), (64, .bool false), (65, .bool false), (66, iv r13.2), (67, .bool false), (68, .bool false), (69, .bool false), (70, sv 6 r7.1.length ANY), (71, iv (r7.1.length : Int)), (72, iv r15), (73, .bool false), (74, .bool false), (75, .bool false), (76, sv 7 r13.1.length ANY), (77, iv (r13.1.length : Int)), (78, iv r15), (79, .bool false), (80, .bool false), (81, .bool false), (82, ag [iv r1.1, accV 2 r1.2.length]), (83, sv 6 r7.1.length ANY), (84, .bool r29), (85, .bool true), (86, .bool true), (87, .bool true), (88, undef), (89, undef), (90, undef), (91, undef), (92, undef), (93, .bool true), (94, .bool true), (95, undef), (96, undef), (97, undef), (98, undef), (99, undef), (100, undef), (101, undef), (102, .bool true), (103, .bool true), (104, undef), (105, undef)]) (H10_7 p1 r1 r3 r5 r7 r13) [] []) 20 (QJ.dn ⟨rfl, SJ.la⟩)))
   exact hK
 replace hm146 := of_neg hm146 hc31
 have hX := of_guard hm146
 clear hm146
 obtain ⟨hg32, hm146⟩ := hX
 have hX := of_do hm146
 clear hm146
 obtain ⟨o33, h34, hm146⟩ := hX
 replace h34 := sj h34
 rcases Bool.eq_false_or_eq_true (!((o33.1 == r3.1) && ((o33.2 == r3.2) && true))) with hc35 | hc35
 · replace hm146 := of_pos hm146 hc35
   have hm146 := sj hm146
   subst hm146
   have hT : ∀ e ∈ ([⟨42, [ag [iv r1.1, accV 2 r1.2.length], sv 6 r7.1.length ANY], (H10_7 p1 r1 r3 r5 r7 r13), .bool r29, []⟩] : List Entry), PureSim Try.prog e.g e.args e.h e.v e.new := by
    intro e he
    simp only [List.mem_cons, List.not_mem_nil, or_false] at he
    rcases he with rfl
    exact (PureSim.ren (hc := (H10_20 r1 r7)) (fun i => List.getD [(2, 0), (6, 0)] i (0, 0)) (C42 _ _ _ _ h30) (.ac (.ac (.nil _))) (.cons (Rn.agg' (.fl (.cons (Rn.accA (i' := 2) (nl rfl) rfl) .nil))) (.cons (Rn.any _ _ _ _ _ _ (nl rfl) rfl rfl (by decide)) .nil)) (.flat (by kernel_rfl)) newflat_nil)
   refine TS.dp [⟨42, [ag [iv r1.1, accV 2 r1.2.length], sv 6 r7.1.length ANY], (H10_7 p1 r1 r3 r5 r7 r13), .bool r29, []⟩] hT mixed 43 [7, 8, 10, 108] [0, 2, 3, 4, 6] (S10_19 r7) (H10_14 p1 r1 r3 r7) ?_ ?_
   · refine QJ.rn (qs (S10_13 r7 r13 r15) (H10_7 p1 r1 r3 r5 r7 r13) [] []) 1 (QJ.o { val := .bool false } (q_conv (e := r7.2 != 0) (b := false) (by kernel_rfl) hc25) (QJ.rn (qs (S10_8 r7 r13 r15) (H10_7 p1 r1 r3 r5 r7 r13) [] []) 2 (QJ.o { val := .bool false } (q_conv (e := r13.2 != 0) (b := false) (by kernel_rfl) hc26) (QJ.rn (qs (S10_6 r7 r13 r15) (H10_7 p1 r1 r3 r5 r7 r13) [] []) 5 (QJ.o { val := .bool false } (q_conv (e := (r7.1.length : Int) != r15) (b := false) (by kernel_rfl) hc27) (QJ.rn (qs (S10_5 r7 r13 r15) (H10_7 p1 r1 r3 r5 r7 r13) [] []) 5 (QJ.o { val := .bool false } (q_conv (e := (r13.1.length : Int) != r15) (b := false) (by kernel_rfl) hc28) (QJ.rn (qs (S10_4 r7 r13 r15 r1) (H10_7 p1 r1 r3 r5 r7 r13) [] []) 4 ?_))))))))
     refine QJ.o { val := .bool r29, new := [] } (qOf_call (g := 42) (args := [ag [iv r1.1, accV 2 r1.2.length], sv 6 r7.1.length ANY]) (by kernel_rfl) lookC_hit) (QJ.o { val := .bool false } (q_conv (e := !r29) (b := false) (by kernel_rfl) hc31) (QJ.rn (qs (S10_3 r7 r13 r15 r1 r29) (H10_7 p1 r1 r3 r5 r7 r13) [] []) 3 (QJ.o { val := .pointer (some ⟨6, 0 + (Int.toNat 0) * 2, none⟩) } (q_ixS 6 0 ((Int.toNat 0) * 2) (by kernel_rfl) hg32) (QJ.o { val := ag [iv o33.1, .bool o33.2] } (q_nAa Try.prog (H10_7 p1 r1 r3 r5 r7 r13) 50 6 (0 + (Int.toNat 0) * 2) r7.1 e50 2 50 (Int.toNat 0) (0, false) h34) (QJ.rn (qs (S10_2 r7 r13 r15 r1 r29 o33 r3) (H10_7 p1 r1 r3 r5 r7 r13) [] []) 1 (QJ.o { val := .bool true } (q_conv (e := !((o33.1 == r3.1) && ((o33.2 == r3.2) && true))) (b := true) (by kernel_rfl) hc35) (QJ.rn (qs (st 131 [(7, pt 3 0), (8, pt 4 0), (9, pt 5 0), (10, sv 6 r7.1.length ANY), (11, iv r7.2), (12, sv 7 r13.1.length ANY), (13, iv r13.2), (14, iv r15), (48, .bool (r15 == 0)), (63, iv r7.2), (64, .bool false), (65, .bool false), (66, iv r13.2), (67, .bool false), (68, .bool false), (69, .bool false), (70, sv 6 r7.1.length ANY), (71, iv (r7.1.length : Int)), (72, iv r15), (73, .bool false), (74, .bool false), (75, .bool false), (76, sv 7 r13.1.length ANY), (77, iv (r13.1.length : Int)), (78, iv r15), (79, .bool false), (80, .bool false), (81, .bool false), (82, ag [iv r1.1, accV 2 r1.2.length]), (83, sv 6 r7.1.length ANY), (84, .bool r29), (85, .bool false), (86, .bool false), (87, .bool false), (88, sv 6 r7.1.length ANY), (89, .pointer (some ⟨6, 0 + (Int.toNat 0) * 2, none⟩)), (90, ag [iv o33.1, .bool o33.2]), (91, ag [iv r3.1, .bool r3.2]), (92, .bool true), (93, .bool true), (94, .bool true), (95, undef), (96, undef), (97, undef), (98, undef), (99, undef), (100, undef), (101, undef), (102, .bool true), (103, .bool true), (104, undef), (105, undef)]) (H10_7 p1 r1 r3 r5 r7 r13) [] []) 13 (QJ.dn ⟨rfl, ?_⟩))))))))
     exact SJ.la
   exact hK
 replace hm146 := of_neg hm146 hc35
 have hX := of_guard hm146
 clear hm146
 obtain ⟨hg36, hm146⟩ := hX
 have hX := of_do hm146
 clear hm146
 obtain ⟨o37, h38, hm146⟩ := hX
 replace h38 := sj h38
 rcases Bool.eq_false_or_eq_true (!((o37.1 == r5.1) && ((o37.2 == r5.2) && true))) with hc39 | hc39
 · replace hm146 := of_pos hm146 hc39
   have hm146 := sj hm146
   subst hm146
   have hT : ∀ e ∈ ([⟨42, [ag [iv r1.1, accV 2 r1.2.length], sv 6 r7.1.length ANY], (H10_7 p1 r1 r3 r5 r7 r13), .bool r29, []⟩] : List Entry), PureSim Try.prog e.g e.args e.h e.v e.new := by
    intro e he
    simp only [List.mem_cons, List.not_mem_nil, or_false] at he
    rcases he with rfl
    exact (PureSim.ren (hc := (H10_20 r1 r7)) (fun i => List.getD [(2, 0), (6, 0)] i (0, 0)) (C42 _ _ _ _ h30) (.ac (.ac (.nil _))) (.cons (Rn.agg' (.fl (.cons (Rn.accA (i' := 2) (nl rfl) rfl) .nil))) (.cons (Rn.any _ _ _ _ _ _ (nl rfl) rfl rfl (by decide)) .nil)) (.flat (by kernel_rfl)) newflat_nil)
   refine TS.dp [⟨42, [ag [iv r1.1, accV 2 r1.2.length], sv 6 r7.1.length ANY], (H10_7 p1 r1 r3 r5 r7 r13), .bool r29, []⟩] hT mixed 43 [7, 8, 10, 108] [0, 2, 3, 4, 6] (S10_19 r7) (H10_14 p1 r1 r3 r7) ?_ ?_
   · refine QJ.rn (qs (S10_13 r7 r13 r15) (H10_7 p1 r1 r3 r5 r7 r13) [] []) 1 (QJ.o { val := .bool false } (q_conv (e := r7.2 != 0) (b := false) (by kernel_rfl) hc25) (QJ.rn (qs (S10_8 r7 r13 r15) (H10_7 p1 r1 r3 r5 r7 r13) [] []) 2 (QJ.o { val := .bool false } (q_conv (e := r13.2 != 0) (b := false) (by kernel_rfl) hc26) (QJ.rn (qs (S10_6 r7 r13 r15) (H10_7 p1 r1 r3 r5 r7 r13) [] []) 5 (QJ.o { val := .bool false } (q_conv (e := (r7.1.length : Int) != r15) (b := false) (by kernel_rfl) hc27) (QJ.rn (qs (S10_5 r7 r13 r15) (H10_7 p1 r1 r3 r5 r7 r13) [] []) 5 (QJ.o { val := .bool false } (q_conv (e := (r13.1.length : Int) != r15) (b := false) (by kernel_rfl) hc28) (QJ.rn (qs (S10_4 r7 r13 r15 r1) (H10_7 p1 r1 r3 r5 r7 r13) [] []) 4 ?_))))))))
     refine QJ.o { val := .bool r29, new := [] } (qOf_call (g := 42) (args := [ag [iv r1.1, accV 2 r1.2.length], sv 6 r7.1.length ANY]) (by kernel_rfl) lookC_hit) (QJ.o { val := .bool false } (q_conv (e := !r29) (b := false) (by kernel_rfl) hc31) (QJ.rn (qs (S10_3 r7 r13 r15 r1 r29) (H10_7 p1 r1 r3 r5 r7 r13) [] []) 3 (QJ.o { val := .pointer (some ⟨6, 0 + (Int.toNat 0) * 2, none⟩) } (q_ixS 6 0 ((Int.toNat 0) * 2) (by kernel_rfl) hg32) (QJ.o { val := ag [iv o33.1, .bool o33.2] } (q_nAa Try.prog (H10_7 p1 r1 r3 r5 r7 r13) 50 6 (0 + (Int.toNat 0) * 2) r7.1 e50 2 50 (Int.toNat 0) (0, false) h34) (QJ.rn (qs (S10_2 r7 r13 r15 r1 r29 o33 r3) (H10_7 p1 r1 r3 r5 r7 r13) [] []) 1 (QJ.o { val := .bool false } (q_conv (e := !((o33.1 == r3.1) && ((o33.2 == r3.2) && true))) (b := false) (by kernel_rfl) hc35) (QJ.rn (qs (S10_1 r7 r13 r15 r1 r29 o33 r3) (H10_7 p1 r1 r3 r5 r7 r13) [] []) 5 (QJ.o { val := .pointer (some ⟨6, 0 + (Int.toNat (w64 (r15 - 1))) * 2, none⟩) } (q_ixS 6 0 ((Int.toNat (w64 (r15 - 1))) * 2) (by kernel_rfl) hg36) ?_))))))))
     exact QJ.o { val := ag [iv o37.1, .bool o37.2] } (q_nAa Try.prog (H10_7 p1 r1 r3 r5 r7 r13) 50 6 (0 + (Int.toNat (w64 (r15 - 1))) * 2) r7.1 e50 2 50 (Int.toNat (w64 (r15 - 1))) (0, false) h38) (QJ.rn (qs (S10_0 r7 r13 r15 r1 r29 o33 r3 o37 r5) (H10_7 p1 r1 r3 r5 r7 r13) [] []) 1 (QJ.o { val := .bool true } (q_conv (e := !((o37.1 == r5.1) && ((o37.2 == r5.2) && true))) (b := true) (by kernel_rfl) hc39) (QJ.rn (qs (st 131 [(7, pt 3 0), (8, pt 4 0), (9, pt 5 0), (10, sv 6 r7.1.length ANY), (11, iv r7.2), (12, sv 7 r13.1.length ANY), (13, iv r13.2), (14, iv r15), (48, .bool (r15 == 0)), (63, iv r7.2), (64, .bool false), (65, .bool false), (66, iv r13.2), (67, .bool false), (68, .bool false), (69, .bool false), (70, sv 6 r7.1.length ANY), (71, iv (r7.1.length : Int)), (72, iv r15), (73, .bool false), (74, .bool false), (75, .bool false), (76, sv 7 r13.1.length ANY), (77, iv (r13.1.length : Int)), (78, iv r15), (79, .bool false), (80, .bool false), (81, .bool false), (82, ag [iv r1.1, accV 2 r1.2.length]), (83, sv 6 r7.1.length ANY), (84, .bool r29), (85, .bool false), (86, .bool false), (87, .bool false), (88, sv 6 r7.1.length ANY), (89, .pointer (some ⟨6, 0 + (Int.toNat 0) * 2, none⟩)), (90, ag [iv o33.1, .bool o33.2]), (91, ag [iv r3.1, .bool r3.2]), (92, .bool false), (93, .bool false), (94, .bool false), (95, sv 6 r7.1.length ANY), (96, iv r15), (97, iv (w64 (r15 - 1))), (98, .pointer (some ⟨6, 0 + (Int.toNat (w64 (r15 - 1))) * 2, none⟩)), (99, ag [iv o37.1, .bool o37.2]), (100, ag [iv r5.1, .bool r5.2]), (101, .bool true), (102, .bool true), (103, .bool true), (104, undef), (105, undef)]) (H10_7 p1 r1 r3 r5 r7 r13) [] []) 4 (QJ.dn ⟨rfl, SJ.la⟩))))
   exact hK
 replace hm146 := of_neg hm146 hc39
 have hX := of_do hm146
 clear hm146
 obtain ⟨r40, h41, hm146⟩ := hX
 have hm146 := sj hm146
 subst hm146
 have hT : ∀ e ∈ ([⟨42, [ag [iv r1.1, accV 2 r1.2.length], sv 6 r7.1.length ANY], (H10_7 p1 r1 r3 r5 r7 r13), .bool r29, []⟩, ⟨30, [ag [iv r1.1, accV 2 r1.2.length], sv 6 r7.1.length ANY], (H10_7 p1 r1 r3 r5 r7 r13), iv r40, []⟩] : List Entry), PureSim Try.prog e.g e.args e.h e.v e.new := by
  intro e he
  simp only [List.mem_cons, List.not_mem_nil, or_false] at he
  rcases he with rfl | rfl
  · exact (PureSim.ren (hc := (H10_20 r1 r7)) (fun i => List.getD [(2, 0), (6, 0)] i (0, 0)) (C42 _ _ _ _ h30) (.ac (.ac (.nil _))) (.cons (Rn.agg' (.fl (.cons (Rn.accA (i' := 2) (nl rfl) rfl) .nil))) (.cons (Rn.any _ _ _ _ _ _ (nl rfl) rfl rfl (by decide)) .nil)) (.flat (by kernel_rfl)) newflat_nil)
  exact (PureSim.ren (hc := (H10_20 r1 r7)) (fun i => List.getD [(2, 0), (6, 0)] i (0, 0)) (C30 _ _ _ _ h41) (.ac (.ac (.nil _))) (.cons (Rn.agg' (.fl (.cons (Rn.accA (i' := 2) (nl rfl) rfl) .nil))) (.cons (Rn.any _ _ _ _ _ _ (nl rfl) rfl rfl (by decide)) .nil)) (.flat (by kernel_rfl)) newflat_nil)
 refine TS.dp [⟨42, [ag [iv r1.1, accV 2 r1.2.length], sv 6 r7.1.length ANY], (H10_7 p1 r1 r3 r5 r7 r13), .bool r29, []⟩, ⟨30, [ag [iv r1.1, accV 2 r1.2.length], sv 6 r7.1.length ANY], (H10_7 p1 r1 r3 r5 r7 r13), iv r40, []⟩] hT mixed 43 [7, 8, 10, 108] [0, 2, 3, 4, 6] (st 131 [(7, pt 3 0), (8, pt 4 0), (10, sv 6 r7.1.length ANY), (108, .bool (r40 != 0))]) (H10_14 p1 r1 r3 r7) ?_ ?_
 · refine QJ.rn (qs (S10_13 r7 r13 r15) (H10_7 p1 r1 r3 r5 r7 r13) [] []) 1 (QJ.o { val := .bool false } (q_conv (e := r7.2 != 0) (b := false) (by kernel_rfl) hc25) (QJ.rn (qs (S10_8 r7 r13 r15) (H10_7 p1 r1 r3 r5 r7 r13) [] []) 2 (QJ.o { val := .bool false } (q_conv (e := r13.2 != 0) (b := false) (by kernel_rfl) hc26) (QJ.rn (qs (S10_6 r7 r13 r15) (H10_7 p1 r1 r3 r5 r7 r13) [] []) 5 (QJ.o { val := .bool false } (q_conv (e := (r7.1.length : Int) != r15) (b := false) (by kernel_rfl) hc27) (QJ.rn (qs (S10_5 r7 r13 r15) (H10_7 p1 r1 r3 r5 r7 r13) [] []) 5 (QJ.o { val := .bool false } (q_conv (e := (r13.1.length : Int) != r15) (b := false) (by kernel_rfl) hc28) (QJ.rn (qs (S10_4 r7 r13 r15 r1) (H10_7 p1 r1 r3 r5 r7 r13) [] []) 4 ?_))))))))
   refine QJ.o { val := .bool r29, new := [] } (qOf_call (g := 42) (args := [ag [iv r1.1, accV 2 r1.2.length], sv 6 r7.1.length ANY]) (by kernel_rfl) lookC_hit) (QJ.o { val := .bool false } (q_conv (e := !r29) (b := false) (by kernel_rfl) hc31) (QJ.rn (qs (S10_3 r7 r13 r15 r1 r29) (H10_7 p1 r1 r3 r5 r7 r13) [] []) 3 (QJ.o { val := .pointer (some ⟨6, 0 + (Int.toNat 0) * 2, none⟩) } (q_ixS 6 0 ((Int.toNat 0) * 2) (by kernel_rfl) hg32) (QJ.o { val := ag [iv o33.1, .bool o33.2] } (q_nAa Try.prog (H10_7 p1 r1 r3 r5 r7 r13) 50 6 (0 + (Int.toNat 0) * 2) r7.1 e50 2 50 (Int.toNat 0) (0, false) h34) (QJ.rn (qs (S10_2 r7 r13 r15 r1 r29 o33 r3) (H10_7 p1 r1 r3 r5 r7 r13) [] []) 1 (QJ.o { val := .bool false } (q_conv (e := !((o33.1 == r3.1) && ((o33.2 == r3.2) && true))) (b := false) (by kernel_rfl) hc35) (QJ.rn (qs (S10_1 r7 r13 r15 r1 r29 o33 r3) (H10_7 p1 r1 r3 r5 r7 r13) [] []) 5 (QJ.o { val := .pointer (some ⟨6, 0 + (Int.toNat (w64 (r15 - 1))) * 2, none⟩) } (q_ixS 6 0 ((Int.toNat (w64 (r15 - 1))) * 2) (by kernel_rfl) hg36) ?_))))))))
   exact QJ.o { val := ag [iv o37.1, .bool o37.2] } (q_nAa Try.prog (H10_7 p1 r1 r3 r5 r7 r13) 50 6 (0 + (Int.toNat (w64 (r15 - 1))) * 2) r7.1 e50 2 50 (Int.toNat (w64 (r15 - 1))) (0, false) h38) (QJ.rn (qs (S10_0 r7 r13 r15 r1 r29 o33 r3 o37 r5) (H10_7 p1 r1 r3 r5 r7 r13) [] []) 1 (QJ.o { val := .bool false } (q_conv (e := !((o37.1 == r5.1) && ((o37.2 == r5.2) && true))) (b := false) (by kernel_rfl) hc39) (QJ.rn (qs (st 131 [(7, pt 3 0), (8, pt 4 0), (9, pt 5 0), (10, sv 6 r7.1.length ANY), (11, iv r7.2), (12, sv 7 r13.1.length ANY), (13, iv r13.2), (14, iv r15), (48, .bool (r15 == 0)), (63, iv r7.2), (64, .bool false), (65, .bool false), (66, iv r13.2), (67, .bool false), (68, .bool false), (69, .bool false), (70, sv 6 r7.1.length ANY), (71, iv (r7.1.length : Int)), (72, iv r15), (73, .bool false), (74, .bool false), (75, .bool false), (76, sv 7 r13.1.length ANY), (77, iv (r13.1.length : Int)), (78, iv r15), (79, .bool false), (80, .bool false), (81, .bool false), (82, ag [iv r1.1, accV 2 r1.2.length]), (83, sv 6 r7.1.length ANY), (84, .bool r29), (85, .bool false), (86, .bool false), (87, .bool false), (88, sv 6 r7.1.length ANY), (89, .pointer (some ⟨6, 0 + (Int.toNat 0) * 2, none⟩)), (90, ag [iv o33.1, .bool o33.2]), (91, ag [iv r3.1, .bool r3.2]), (92, .bool false), (93, .bool false), (94, .bool false), (95, sv 6 r7.1.length ANY), (96, iv r15), (97, iv (w64 (r15 - 1))), (98, .pointer (some ⟨6, 0 + (Int.toNat (w64 (r15 - 1))) * 2, none⟩)), (99, ag [iv o37.1, .bool o37.2]), (100, ag [iv r5.1, .bool r5.2]), (101, .bool false), (102, .bool false), (103, .bool false), (104, ag [iv r1.1, accV 2 r1.2.length]), (105, sv 6 r7.1.length ANY)]) (H10_7 p1 r1 r3 r5 r7 r13) [] []) 4 (QJ.dn ⟨rfl, (SJ.o { val := iv r40, new := [] } (qOf_call (g := 30) (args := [ag [iv r1.1, accV 2 r1.2.length], sv 6 r7.1.length ANY]) (by kernel_rfl) (lookC_skip (fun hg => absurd (show (42 : Nat) = 30 from hg) (by decide)) lookC_hit)) SJ.la)⟩))))
 exact hK
theorem C10 (p0 : Int) (p1 : List I2) (p2 p3 : Int) (r : Bool) (hF : F10 p0 p1 p2 p3 = some r) : PureSim Try.prog 10 [ag [.int .u8 p0, sv 0 p1.length ANY], .int .u8 p2, .int .u8 p3] [ab 84 e84 p1] (V10 1 r) (N10 1 r) :=
 PureSim.of_Fin Try.func10 (c := c10) (by kernel_rfl) (by kernel_rfl) 1 rfl [0, 1, 2] [0] (by kernel_rfl) (B10 p0 p1 p2 p3 r hF)
end
end Go.Proofs.Ytiaippkjgmccoaa
