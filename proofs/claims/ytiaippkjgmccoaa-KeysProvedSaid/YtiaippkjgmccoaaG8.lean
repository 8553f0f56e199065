/- What functions of the program compute, and that they do. -/
import Derived.Test.YtiaippkjgmccoaaKQ
import Derived.Test.YtiaippkjgmccoaaGiven
set_option linter.unusedVariables false
set_option linter.unusedSimpArgs false
set_option maxRecDepth 100000
set_option maxHeartbeats 4000000
namespace Go.Proofs.Ytiaippkjgmccoaa
open Go Go.Cl
noncomputable section
def e5 (x : Int) : List Value := [.int .u8 x]
noncomputable def c8 : Code := Try.f8.code
def S8_0 (r32 r63 : List (Int × Bool)) (r1 : Int × (List ((Int × Bool) × (Int × Bool)))) (o80 o83 r85 o89 : Int × Bool) : CAct := (st 136 [(7, pt 3 0), (8, accV 5 r32.length), (9, accV 6 r63.length), (70, .bool false), (71, ag [iv r1.1, accV 4 r1.2.length]), (72, accV 5 r32.length), (73, .bool true), (74, .bool true), (75, ag [iv r1.1, accV 4 r1.2.length]), (76, accV 6 r63.length), (77, .bool true), (78, .bool true), (79, .bool true), (80, accV 5 r32.length), (81, accV 5 r32.length), (82, iv (r32.length : Int)), (83, iv (w64 ((r32.length : Int) - 1))), (84, .pointer (some ⟨5, 0 + (Int.toNat (w64 ((r32.length : Int) - 1))) * 2, none⟩)), (85, ag [iv o80.1, .bool o80.2]), (86, accV 5 r32.length), (87, .pointer (some ⟨5, 0 + (Int.toNat 0) * 2, none⟩)), (88, ag [iv o83.1, .bool o83.2]), (89, ag [iv r85.1, .bool r85.2]), (90, .bool true), (91, .bool true), (92, .bool true), (93, accV 6 r63.length), (94, .pointer (some ⟨6, 0 + (Int.toNat 0) * 2, none⟩)), (95, ag [iv o89.1, .bool o89.2]), (96, accV 5 r32.length), (97, accV 5 r32.length), (98, iv (r32.length : Int)), (99, iv (w64 ((r32.length : Int) - 1)))])
def S8_1 (r32 r63 : List (Int × Bool)) (r1 : Int × (List ((Int × Bool) × (Int × Bool)))) (o80 o83 r85 : Int × Bool) : CAct := (st 136 [(7, pt 3 0), (8, accV 5 r32.length), (9, accV 6 r63.length), (70, .bool false), (71, ag [iv r1.1, accV 4 r1.2.length]), (72, accV 5 r32.length), (73, .bool true), (74, .bool true), (75, ag [iv r1.1, accV 4 r1.2.length]), (76, accV 6 r63.length), (77, .bool true), (78, .bool true), (79, .bool true), (80, accV 5 r32.length), (81, accV 5 r32.length), (82, iv (r32.length : Int)), (83, iv (w64 ((r32.length : Int) - 1))), (84, .pointer (some ⟨5, 0 + (Int.toNat (w64 ((r32.length : Int) - 1))) * 2, none⟩)), (85, ag [iv o80.1, .bool o80.2]), (86, accV 5 r32.length), (87, .pointer (some ⟨5, 0 + (Int.toNat 0) * 2, none⟩)), (88, ag [iv o83.1, .bool o83.2]), (89, ag [iv r85.1, .bool r85.2]), (90, .bool true), (91, .bool true), (92, .bool true), (93, accV 6 r63.length)])
def S8_2 (r32 r63 : List (Int × Bool)) (r1 : Int × (List ((Int × Bool) × (Int × Bool)))) (o80 : Int × Bool) : CAct := (st 136 [(7, pt 3 0), (8, accV 5 r32.length), (9, accV 6 r63.length), (70, .bool false), (71, ag [iv r1.1, accV 4 r1.2.length]), (72, accV 5 r32.length), (73, .bool true), (74, .bool true), (75, ag [iv r1.1, accV 4 r1.2.length]), (76, accV 6 r63.length), (77, .bool true), (78, .bool true), (79, .bool true), (80, accV 5 r32.length), (81, accV 5 r32.length), (82, iv (r32.length : Int)), (83, iv (w64 ((r32.length : Int) - 1))), (84, .pointer (some ⟨5, 0 + (Int.toNat (w64 ((r32.length : Int) - 1))) * 2, none⟩)), (85, ag [iv o80.1, .bool o80.2]), (86, accV 5 r32.length)])
def S8_3 (p2 p3 : List Int) (v12 : List (Int × Bool)) (v11 : Int) (r1 : Int × (List ((Int × Bool) × (Int × Bool)))) (o26 : Int) (r28 : Int × Bool) : CAct := (st 136 [(1, sv 1 p2.length ANY), (2, sv 2 p3.length ANY), (7, pt 3 0), (8, accV 5 v12.length), (9, .slice none 0 0), (10, iv v11), (22, .bool true), (25, accV 5 v12.length), (26, ag [iv r1.1, accV 4 r1.2.length]), (27, sv 1 p2.length ANY), (28, iv v11), (29, .pointer (some ⟨1, 0 + (Int.toNat v11) * 1, none⟩)), (30, .int .u8 o26), (31, ag [iv r28.1, .bool r28.2]), (32, sv 6 1 1)])
def S8_4 (r32 r63 : List (Int × Bool)) (r1 : Int × (List ((Int × Bool) × (Int × Bool)))) : CAct := (st 136 [(7, pt 3 0), (8, accV 5 r32.length), (9, accV 6 r63.length), (70, .bool false), (71, ag [iv r1.1, accV 4 r1.2.length]), (72, accV 5 r32.length), (73, .bool true), (74, .bool true), (75, ag [iv r1.1, accV 4 r1.2.length]), (76, accV 6 r63.length), (77, .bool true), (78, .bool true), (79, .bool true), (80, accV 5 r32.length), (81, accV 5 r32.length), (82, iv (r32.length : Int)), (83, iv (w64 ((r32.length : Int) - 1)))])
def S8_5 (p3 : List Int) (r32 v43 : List (Int × Bool)) (v42 : Int) (r1 : Int × (List ((Int × Bool) × (Int × Bool)))) (o57 : Int) (r59 : Int × Bool) : CAct := (st 136 [(2, sv 2 p3.length ANY), (7, pt 3 0), (8, accV 5 r32.length), (9, accV 6 v43.length), (11, iv v42), (41, .bool true), (44, accV 6 v43.length), (45, ag [iv r1.1, accV 4 r1.2.length]), (46, sv 2 p3.length ANY), (47, iv v42), (48, .pointer (some ⟨2, 0 + (Int.toNat v42) * 1, none⟩)), (49, .int .u8 o57), (50, ag [iv r59.1, .bool r59.2]), (51, sv 7 1 1)])
def H8_6 (p1 : List I2) (p2 p3 : List Int) (r1 : Int × (List ((Int × Bool) × (Int × Bool)))) (r32 v43 : List (Int × Bool)) (r59 : Int × Bool) : List Blk := [ab 84 e84 p1, ab 5 e5 p2, ab 5 e5 p3, cl 24 [iv r1.1, accV 4 r1.2.length], ab 86 e86 r1.2, ab 50 e50 r32, ab 50 e50 v43, cl 50 [iv r59.1, .bool r59.2]]
def H8_7 (p1 : List I2) (p2 p3 : List Int) (r1 : Int × (List ((Int × Bool) × (Int × Bool)))) (r32 v43 : List (Int × Bool)) : List Blk := [ab 84 e84 p1, ab 5 e5 p2, ab 5 e5 p3, cl 24 [iv r1.1, accV 4 r1.2.length], ab 86 e86 r1.2, ab 50 e50 r32, ab 50 e50 v43]
def H8_8 (p1 : List I2) (p2 p3 : List Int) (r1 : Int × (List ((Int × Bool) × (Int × Bool)))) (r32 r63 : List (Int × Bool)) : List Blk := [ab 84 e84 p1, ab 5 e5 p2, ab 5 e5 p3, cl 24 [iv r1.1, accV 4 r1.2.length], ab 86 e86 r1.2, ab 50 e50 r32, ab 50 e50 r63]
def H8_9 (p1 : List I2) (p2 p3 : List Int) (r1 : Int × (List ((Int × Bool) × (Int × Bool)))) (v12 : List (Int × Bool)) (r28 : Int × Bool) : List Blk := [ab 84 e84 p1, ab 5 e5 p2, ab 5 e5 p3, cl 24 [iv r1.1, accV 4 r1.2.length], ab 86 e86 r1.2, ab 50 e50 v12, cl 50 [iv r28.1, .bool r28.2]]
def S8_10 (r32 r63 : List (Int × Bool)) (r1 : Int × (List ((Int × Bool) × (Int × Bool)))) : CAct := (st 136 [(7, pt 3 0), (8, accV 5 r32.length), (9, accV 6 r63.length), (70, .bool false), (71, ag [iv r1.1, accV 4 r1.2.length]), (72, accV 5 r32.length), (73, .bool true), (74, .bool true), (75, ag [iv r1.1, accV 4 r1.2.length]), (76, accV 6 r63.length)])
def H8_11 (p1 : List I2) (p2 p3 : List Int) (r1 : Int × (List ((Int × Bool) × (Int × Bool)))) (v12 : List (Int × Bool)) : List Blk := [ab 84 e84 p1, ab 5 e5 p2, ab 5 e5 p3, cl 24 [iv r1.1, accV 4 r1.2.length], ab 86 e86 r1.2, ab 50 e50 v12]
def S8_12 (r32 r63 : List (Int × Bool)) (r1 : Int × (List ((Int × Bool) × (Int × Bool)))) (r65 : Int) : CAct := (st 136 [(7, pt 3 0), (8, accV 5 r32.length), (9, accV 6 r63.length), (53, ag [iv r1.1, accV 4 r1.2.length]), (54, accV 5 r32.length), (55, iv r65), (56, .bool (r65 == 0)), (57, ag [iv r1.1, accV 4 r1.2.length]), (58, accV 5 r32.length)])
def H8_13 (p1 : List I2) (p2 p3 : List Int) (r1 : Int × (List ((Int × Bool) × (Int × Bool)))) : List Blk := [ab 84 e84 p1, ab 5 e5 p2, ab 5 e5 p3, cl 24 [iv r1.1, accV 4 r1.2.length], ab 86 e86 r1.2, .dead, .dead]
def S8_14 (p2 p3 : List Int) (v12 : List (Int × Bool)) (v11 : Int) : CAct := (st 136 [(1, sv 1 p2.length ANY), (2, sv 2 p3.length ANY), (7, pt 3 0), (8, accV 5 v12.length), (9, .slice none 0 0), (10, iv v11), (15, iv v11), (17, iv (p2.length : Int))])
def S8_15 (p3 : List Int) (r32 v43 : List (Int × Bool)) (v42 : Int) : CAct := (st 136 [(2, sv 2 p3.length ANY), (7, pt 3 0), (8, accV 5 r32.length), (9, accV 6 v43.length), (11, iv v42), (34, iv v42), (36, iv (p3.length : Int))])
def S8_16 (p2 p3 : List Int) (v12 : List (Int × Bool)) (v11 : Int) : CAct := (st 136 [(1, sv 1 p2.length ANY), (2, sv 2 p3.length ANY), (7, pt 3 0), (8, accV 5 v12.length), (9, .slice none 0 0), (10, iv v11)])
def S8_17 (r32 r63 : List (Int × Bool)) (r1 : Int × (List ((Int × Bool) × (Int × Bool)))) : CAct := (st 136 [(7, pt 3 0), (8, accV 5 r32.length), (9, accV 6 r63.length), (70, .bool false), (71, ag [iv r1.1, accV 4 r1.2.length]), (72, accV 5 r32.length)])
def H8_18 (p1 : List I2) (p2 p3 : List Int) : List Blk := [ab 84 e84 p1, ab 5 e5 p2, ab 5 e5 p3, .dead, .dead, .dead, .dead, .dead]
def H8_19 (p1 : List I2) (p2 p3 : List Int) : List Blk := [ab 84 e84 p1, ab 5 e5 p2, ab 5 e5 p3, .dead, .dead, .dead, .dead]
def S8_20 (m95 : Bool) (r1 : Int × (List ((Int × Bool) × (Int × Bool)))) (r32 r63 : List (Int × Bool)) : CAct := (st 136 [(7, pt 3 0), (12, .bool m95), (116, ag [iv r1.1, accV 4 r1.2.length]), (117, accV 5 r32.length), (118, accV 6 r63.length)])
def H8_21 (r1 : Int × (List ((Int × Bool) × (Int × Bool)))) (r32 r63 : List (Int × Bool)) : List Blk := [ab 86 e86 r1.2, ab 50 e50 r32, ab 50 e50 r63]
def S8_22 (r32 r63 : List (Int × Bool)) : CAct := (st 136 [(7, pt 3 0), (8, accV 5 r32.length), (9, accV 6 r63.length), (12, .bool false)])
def H8_23 (r1 : Int × (List ((Int × Bool) × (Int × Bool)))) (r32 : List (Int × Bool)) : List Blk := [ab 86 e86 r1.2, ab 50 e50 r32]
def H8_24 (r1 : Int × (List ((Int × Bool) × (Int × Bool)))) (r63 : List (Int × Bool)) : List Blk := [ab 86 e86 r1.2, ab 50 e50 r63]
def S8_25 (m95 : Bool) (r96 : Int) : CAct := (st 136 [(7, pt 3 0), (12, .bool m95), (120, .bool (r96 == 0)), (121, .bool m95)])
def F8l0 (p1 : List I2) (p2 p3 : List Int) (r1 : Int × (List ((Int × Bool) × (Int × Bool)))) (v12 : List (Int × Bool)) (v11 : Int) : Option (List (Int × Bool)) :=
 (
  if decide (v11 < (p2.length : Int)) then
   some (decide (v11 < 6))
  else
   some (false)
 : Option Bool) >>= fun m24 =>
 if m24 then
  if (0 : Int) ≤ v11 ∧ v11 < (p2.length : Int) then
   some (List.getD p2 (Int.toNat v11) 0) >>= fun o26 =>
   F45 r1.1 r1.2 o26 >>= fun r28 =>
   if List.length v12 ≤ 1000000000 then
    F8l0 p1 p2 p3 r1 (v12 ++ [(r28.1, r28.2)]) (w64 (v11 + 1))
   else none
  else none
 else
  some v12
 partial_fixpoint
def F8l1 (p1 : List I2) (p2 p3 : List Int) (r1 : Int × (List ((Int × Bool) × (Int × Bool)))) (r32 v43 : List (Int × Bool)) (v42 : Int) : Option (List (Int × Bool)) :=
 (
  if decide (v42 < (p3.length : Int)) then
   some (decide (v42 < 6))
  else
   some (false)
 : Option Bool) >>= fun m55 =>
 if m55 then
  if (0 : Int) ≤ v42 ∧ v42 < (p3.length : Int) then
   some (List.getD p3 (Int.toNat v42) 0) >>= fun o57 =>
   F45 r1.1 r1.2 o57 >>= fun r59 =>
   if List.length v43 ≤ 1000000000 then
    F8l1 p1 p2 p3 r1 r32 (v43 ++ [(r59.1, r59.2)]) (w64 (v42 + 1))
   else none
  else none
 else
  some v43
 partial_fixpoint
def F8 (p0 : Int) (p1 : List I2) (p2 p3 : List Int) : Option Bool :=
 F40 p0 p1 >>= fun r1 =>
 F8l0 p1 p2 p3 r1 ([]) 0 >>= fun r32 =>
 F8l1 p1 p2 p3 r1 r32 ([]) 0 >>= fun r63 =>
 F30 r1.1 r1.2 r32 >>= fun r65 =>
 F42 r1.1 r1.2 r32 >>= fun r67 =>
 (
  if !((r65 == 0) == r67) then
   some (true)
  else
   F30 r1.1 r1.2 r63 >>= fun r70 =>
   F42 r1.1 r1.2 r63 >>= fun r72 =>
   some (!((r70 == 0) == r72))
 : Option Bool) >>= fun m74 =>
 if m74 then
  some false
 else
  F42 r1.1 r1.2 r32 >>= fun r75 =>
  (
   if r75 then
    F42 r1.1 r1.2 r63 >>= fun r77 =>
    if r77 then
     if (0 : Int) ≤ w64 ((r32.length : Int) - 1) ∧ w64 ((r32.length : Int) - 1) < (r32.length : Int) then
      some (List.getD r32 (Int.toNat (w64 ((r32.length : Int) - 1))) (0, false)) >>= fun o80 =>
      if (0 : Int) ≤ 0 ∧ 0 < (r32.length : Int) then
       some (List.getD r32 (Int.toNat 0) (0, false)) >>= fun o83 =>
       F43 o83.1 o83.2 >>= fun r85 =>
       if ((o80.1 == r85.1) && ((o80.2 == r85.2) && true)) then
        if (0 : Int) ≤ 0 ∧ 0 < (r63.length : Int) then
         some (List.getD r63 (Int.toNat 0) (0, false)) >>= fun o89 =>
         if ((o89.1 == o80.1) && ((o89.2 == o80.2) && true)) then
          if (0 : Int) ≤ w64 ((r63.length : Int) - 1) ∧ w64 ((r63.length : Int) - 1) < (r63.length : Int) then
           some (List.getD r63 (Int.toNat (w64 ((r63.length : Int) - 1))) (0, false)) >>= fun o93 =>
           some (((o93.1 == o83.1) && ((o93.2 == o83.2) && true)))
          else none
         else
          some (false)
        else none
       else
        some (false)
      else none
     else none
    else
     some (false)
   else
    some (false)
  : Option Bool) >>= fun m95 =>
  F34 r1.1 r1.2 r32 r63 >>= fun r96 =>
  (
   if (r96 == 0) == m95 then
    if !m95 then
     F15 >>= fun r100 =>
     some (r100)
    else
     F41 r1.1 r1.2 ([]) >>= fun r102 =>
     if (r102.length : Int) == 0 then
      F15 >>= fun r105 =>
      some (r105)
     else
      some (false)
   else
    some (false)
  : Option Bool) >>= fun m107 =>
  some m107
def V8 (b : Nat) (r : Bool) : Value := .bool r
def N8 (b : Nat) (r : Bool) : List Blk := []
def P8l0 (p1 : List I2) (p2 p3 : List Int) (r1 : Int × (List ((Int × Bool) × (Int × Bool)))) (r : List (Int × Bool)) : Post := fun e a h => e = .exit 0 ∧ Wk Try.prog 3 3 a h (st 136 [(2, sv 2 p3.length ANY), (7, pt 3 0), (8, accV 5 r.length), (9, .slice none 0 0)]) [ab 84 e84 p1, ab 5 e5 p2, ab 5 e5 p3, cl 24 [iv r1.1, accV 4 r1.2.length], ab 86 e86 r1.2, ab 50 e50 r]
theorem L8l0 (p1 : List I2) (p2 p3 : List Int) (r1 : Int × (List ((Int × Bool) × (Int × Bool)))) (v12 : List (Int × Bool)) (v11 : Int) (r : List (Int × Bool)) (hF : F8l0 p1 p2 p3 r1 v12 v11 = some r) : TL Try.prog 3 3 c8.s2.s2.s2.s1.s2.bd.bd (S8_16 p2 p3 v12 v11) (H8_11 p1 p2 p3 r1 v12) (P8l0 p1 p2 p3 r1 r) := by
 refine F8l0.partial_correctness p1 p2 p3 r1 (motive := fun v12 v11 r => TL Try.prog 3 3 c8.s2.s2.s2.s1.s2.bd.bd (S8_16 p2 p3 v12 v11) (H8_11 p1 p2 p3 r1 v12) (P8l0 p1 p2 p3 r1 r)) ?_ v12 v11 r hF
 clear hF r v12 v11
 intro again ih v12 v11 r hF
 refine TL.round (TS.sq (TS.sq ?_))
 obtain ⟨m24, hm31, hF⟩ := of_do hF
 have hK : NX Try.prog 3 3 [.sq c8.s2.s2.s2.s1.s2.bd.bd.s1.s2, .sq c8.s2.s2.s2.s1.s2.bd.bd.s2] (Rd Try.prog 3 3 c8.s2.s2.s2.s1.s2.bd.bd (P8l0 p1 p2 p3 r1 r)) .normal (st 136 [(1, sv 1 p2.length ANY), (2, sv 2 p3.length ANY), (7, pt 3 0), (8, accV 5 v12.length), (9, .slice none 0 0), (10, iv v11), (22, .bool m24)]) (H8_11 p1 p2 p3 r1 v12) := by
  refine NX.sq ?_
  cases m24 with
  | true =>
   replace hF := of_pos hF rfl
   refine TS.cdT (.tmp 22) (TS.sk (NX.sq (TS.sq (TS.bk 1 ?_))))
   obtain ⟨hg25, hF⟩ := of_guard hF
   obtain ⟨o26, h27, hF⟩ := of_do hF
   replace h27 := sj h27
   obtain ⟨r28, h29, hF⟩ := of_do hF
   obtain ⟨hg30, hF⟩ := of_guard hF
   have hT : ∀ e ∈ ([⟨45, [ag [iv r1.1, accV 4 r1.2.length], .int .u8 o26], (H8_11 p1 p2 p3 r1 v12), ag [iv r28.1, .bool r28.2], []⟩] : List Entry), PureSim Try.prog e.g e.args e.h e.v e.new := by
    intro e he
    simp only [List.mem_cons, List.not_mem_nil, or_false] at he
    rcases he with rfl
    exact (PureSim.ren (hc := [ab 86 e86 r1.2]) (fun i => List.getD [(4, 0)] i (0, 0)) (C45 _ _ _ _ h29) (.ac (.nil _)) (.cons (Rn.agg' (.fl (.cons (Rn.accA (i' := 4) (nl rfl) rfl) .nil))) (.fl .nil)) (.flat (by kernel_rfl)) newflat_nil)
   refine TS.drawT [⟨45, [ag [iv r1.1, accV 4 r1.2.length], .int .u8 o26], (H8_11 p1 p2 p3 r1 v12), ag [iv r28.1, .bool r28.2], []⟩] hT mixed 8 [] (S8_3 p2 p3 v12 v11 r1 o26 r28) (H8_9 p1 p2 p3 r1 v12 r28) ?_ ?_
   · exact QJ.rn (qs (st 136 [(1, sv 1 p2.length ANY), (2, sv 2 p3.length ANY), (7, pt 3 0), (8, accV 5 v12.length), (9, .slice none 0 0), (10, iv v11), (22, .bool true), (25, accV 5 v12.length), (26, ag [iv r1.1, accV 4 r1.2.length]), (27, sv 1 p2.length ANY), (28, iv v11)]) (H8_11 p1 p2 p3 r1 v12) [] []) 4 (QJ.o { val := .pointer (some ⟨1, 0 + (Int.toNat v11) * 1, none⟩) } (q_ixS 1 0 ((Int.toNat v11) * 1) (by kernel_rfl) hg25) (QJ.o { val := .int .u8 o26 } (q_n1a Try.prog (H8_11 p1 p2 p3 r1 v12) 5 1 (0 + (Int.toNat v11) * 1) p2 e5 1 5 (Int.toNat v11) 0 0 h27) (QJ.o { val := ag [iv r28.1, .bool r28.2], new := [] } (qOf_call (g := 45) (args := [ag [iv r1.1, accV 4 r1.2.length], .int .u8 o26]) (by kernel_rfl) lookC_hit) (QJ.rn (qs (S8_3 p2 p3 v12 v11 r1 o26 r28) (H8_9 p1 p2 p3 r1 v12 r28) [(7, 6, 7)] []) 1 (QJ.dn ⟨by kernel_rfl, by kernel_rfl, by kernel_rfl⟩)))))
   refine TI.rn 0 [1, 2, 7, 9, 10, 25, 32] [0, 1, 2, 3, 4, 5, 6] (st 136 [(1, sv 1 p2.length ANY), (2, sv 2 p3.length ANY), (7, pt 3 0), (9, .slice none 0 0), (10, iv v11), (25, accV 5 v12.length), (32, sv 6 1 1)]) (H8_9 p1 p2 p3 r1 v12 r28) (TI.acc (l := v12) (b := 5) (ts := #[25, 25]) (e := 50) (bytes := 16) (z := ag [iv 0, .bool false]) (y := sv 6 1 1) (ys := [(r28.1, r28.2)]) (xs := List.flatMap e50 ([(r28.1, r28.2)])) (m := 1) (s := 2) (enc := e50) (by kernel_rfl) (by kernel_rfl) (by decide) (by kernel_rfl) (by kernel_rfl) (by kernel_rfl) (by kernel_rfl) (by kernel_rfl) (by kernel_rfl) (by kernel_rfl) (by kernel_rfl) (fun _ => rfl) rfl rfl (by omega) [1, 2, 7, 9, 10, 33] [0, 1, 2, 3, 4, 7] (a2 := (st 136 [(1, sv 1 p2.length ANY), (2, sv 2 p3.length ANY), (7, pt 3 0), (9, .slice none 0 0), (10, iv v11), (33, sv 7 (List.length (v12 ++ [(r28.1, r28.2)])) UNK)])) (h2 := [ab 84 e84 p1, ab 5 e5 p2, ab 5 e5 p3, cl 24 [iv r1.1, accV 4 r1.2.length], ab 86 e86 r1.2, .dead, .dead, .cells 50 (List.flatMap e50 (v12 ++ [(r28.1, r28.2)]))]) (by kernel_rfl) (TI.ra 1 [1, 2, 7, 8, 9, 10] (st 136 [(1, sv 1 p2.length ANY), (2, sv 2 p3.length ANY), (7, pt 3 0), (8, sv 7 (List.length (v12 ++ [(r28.1, r28.2)])) UNK), (9, .slice none 0 0), (10, iv v11)]) (TI.dn (NX.bk (NX.sq (TS.rg (TI.ra 3 [1, 2, 7, 8, 9, 10] (st 136 [(1, sv 1 p2.length ANY), (2, sv 2 p3.length ANY), (7, pt 3 0), (8, sv 7 (List.length (v12 ++ [(r28.1, r28.2)])) UNK), (9, .slice none 0 0), (10, iv (w64 (v11 + 1)))]) (TI.dn ?_))))))))
   exact Rd.again (a2 := (st 136 [(1, sv 1 p2.length ANY), (2, sv 2 p3.length ANY), (7, pt 3 0), (8, accV 5 (List.length (v12 ++ [(r28.1, r28.2)]))), (9, .slice none 0 0), (10, iv (w64 (v11 + 1)))])) (h2 := [ab 84 e84 p1, ab 5 e5 p2, ab 5 e5 p3, cl 24 [iv r1.1, accV 4 r1.2.length], ab 86 e86 r1.2, accB 50 (List.length (v12 ++ [(r28.1, r28.2)])) (List.flatMap e50 (v12 ++ [(r28.1, r28.2)]))]) (Wk.an [3, 4, 7] (.ac (.ac (.ac (.lt (.fl (.cons (Rn.acc (nl rfl) rfl) .nil)) (.ac (.cons (At.accU (by kernel_rfl) rfl (fun _ => rfl)) (.nil _))))))) [sv 1 p2.length ANY, sv 2 p3.length ANY, pt 3 0, sv 7 (List.length (v12 ++ [(r28.1, r28.2)])) UNK, .slice none 0 0, iv (w64 (v11 + 1))] (.sl (.sl (.pp (.cons (Rn.accU (nl rfl) rfl (by simp)) (.fl (.fl .nil))))))) (ih (v12 ++ [(r28.1, r28.2)]) (w64 (v11 + 1)) _ hF)
  | false =>
   replace hF := of_neg hF rfl
   refine TS.cdF (.tmp 22) (TS.ex 0 (NX.sqX ?_))
   have hF := sj hF
   subst hF
   exact Rd.out (e := .exit 0) (by intro h; cases h) (And.intro rfl (Wk.an [3, 4, 5] (.ac (.ac (.ac (.lt (.fl (.cons (Rn.acc (nl rfl) rfl) .nil)) (.ac (.ac (.nil _))))))) [sv 2 p3.length ANY, pt 3 0, accV 5 v12.length, .slice none 0 0] (.sl (.pp (.cons (Rn.acc (nl rfl) rfl) (.fl .nil))))))
 rcases Bool.eq_false_or_eq_true (decide (v11 < (p2.length : Int))) with hc23 | hc23
 · replace hm31 := of_pos hm31 hc23
   have hm31 := sj hm31
   subst hm31
   exact TS.rg (TI.ra 3 [1, 2, 7, 8, 9, 10, 15, 17] (S8_14 p2 p3 v12 v11) (TI.o { val := .bool true } (q_conv (e := decide (v11 < (p2.length : Int))) (b := true) (by kernel_rfl) hc23) [1, 2, 7, 8, 9, 10, 18] [0, 1, 2, 3, 4, 5] (st 136 [(1, sv 1 p2.length ANY), (2, sv 2 p3.length ANY), (7, pt 3 0), (8, accV 5 v12.length), (9, .slice none 0 0), (10, iv v11), (18, .bool true)]) (H8_11 p1 p2 p3 r1 v12) (TI.ra 4 [1, 2, 7, 8, 9, 10, 22] (st 136 [(1, sv 1 p2.length ANY), (2, sv 2 p3.length ANY), (7, pt 3 0), (8, accV 5 v12.length), (9, .slice none 0 0), (10, iv v11), (22, .bool (decide (v11 < 6)))]) (TI.dn hK))))
 replace hm31 := of_neg hm31 hc23
 have hm31 := sj hm31
 subst hm31
 exact TS.rg (TI.ra 3 [1, 2, 7, 8, 9, 10, 15, 17] (S8_14 p2 p3 v12 v11) (TI.o { val := .bool false } (q_conv (e := decide (v11 < (p2.length : Int))) (b := false) (by kernel_rfl) hc23) [1, 2, 7, 8, 9, 10, 18] [0, 1, 2, 3, 4, 5] (st 136 [(1, sv 1 p2.length ANY), (2, sv 2 p3.length ANY), (7, pt 3 0), (8, accV 5 v12.length), (9, .slice none 0 0), (10, iv v11), (18, .bool false)]) (H8_11 p1 p2 p3 r1 v12) (TI.ra 4 [1, 2, 7, 8, 9, 10, 22] (st 136 [(1, sv 1 p2.length ANY), (2, sv 2 p3.length ANY), (7, pt 3 0), (8, accV 5 v12.length), (9, .slice none 0 0), (10, iv v11), (22, .bool false)]) (TI.dn hK))))
def P8l1 (p1 : List I2) (p2 p3 : List Int) (r1 : Int × (List ((Int × Bool) × (Int × Bool)))) (r32 r : List (Int × Bool)) : Post := fun e a h => e = .exit 2 ∧ Wk Try.prog 3 3 a h (st 136 [(7, pt 3 0), (8, accV 5 r32.length), (9, accV 6 r.length)]) [ab 84 e84 p1, ab 5 e5 p2, ab 5 e5 p3, cl 24 [iv r1.1, accV 4 r1.2.length], ab 86 e86 r1.2, ab 50 e50 r32, ab 50 e50 r]
theorem L8l1 (p1 : List I2) (p2 p3 : List Int) (r1 : Int × (List ((Int × Bool) × (Int × Bool)))) (r32 v43 : List (Int × Bool)) (v42 : Int) (r : List (Int × Bool)) (hF : F8l1 p1 p2 p3 r1 r32 v43 v42 = some r) : TL Try.prog 3 3 c8.s2.s2.s2.s2.s1.s2.bd.bd (st 136 [(2, sv 2 p3.length ANY), (7, pt 3 0), (8, accV 5 r32.length), (9, accV 6 v43.length), (11, iv v42)]) (H8_7 p1 p2 p3 r1 r32 v43) (P8l1 p1 p2 p3 r1 r32 r) := by
 refine F8l1.partial_correctness p1 p2 p3 r1 r32 (motive := fun v43 v42 r => TL Try.prog 3 3 c8.s2.s2.s2.s2.s1.s2.bd.bd (st 136 [(2, sv 2 p3.length ANY), (7, pt 3 0), (8, accV 5 r32.length), (9, accV 6 v43.length), (11, iv v42)]) (H8_7 p1 p2 p3 r1 r32 v43) (P8l1 p1 p2 p3 r1 r32 r)) ?_ v43 v42 r hF
 clear hF r v43 v42
 intro again ih v43 v42 r hF
 refine TL.round (TS.sq (TS.sq ?_))
 obtain ⟨m55, hm62, hF⟩ := of_do hF
 have hK : NX Try.prog 3 3 [.sq c8.s2.s2.s2.s2.s1.s2.bd.bd.s1.s2, .sq c8.s2.s2.s2.s2.s1.s2.bd.bd.s2] (Rd Try.prog 3 3 c8.s2.s2.s2.s2.s1.s2.bd.bd (P8l1 p1 p2 p3 r1 r32 r)) .normal (st 136 [(2, sv 2 p3.length ANY), (7, pt 3 0), (8, accV 5 r32.length), (9, accV 6 v43.length), (11, iv v42), (41, .bool m55)]) (H8_7 p1 p2 p3 r1 r32 v43) := by
  refine NX.sq ?_
  cases m55 with
  | true =>
   replace hF := of_pos hF rfl
   refine TS.cdT (.tmp 41) (TS.sk (NX.sq (TS.sq (TS.bk 3 ?_))))
   obtain ⟨hg56, hF⟩ := of_guard hF
   obtain ⟨o57, h58, hF⟩ := of_do hF
   replace h58 := sj h58
   obtain ⟨r59, h60, hF⟩ := of_do hF
   obtain ⟨hg61, hF⟩ := of_guard hF
   have hT : ∀ e ∈ ([⟨45, [ag [iv r1.1, accV 4 r1.2.length], .int .u8 o57], (H8_7 p1 p2 p3 r1 r32 v43), ag [iv r59.1, .bool r59.2], []⟩] : List Entry), PureSim Try.prog e.g e.args e.h e.v e.new := by
    intro e he
    simp only [List.mem_cons, List.not_mem_nil, or_false] at he
    rcases he with rfl
    exact (PureSim.ren (hc := [ab 86 e86 r1.2]) (fun i => List.getD [(4, 0)] i (0, 0)) (C45 _ _ _ _ h60) (.ac (.nil _)) (.cons (Rn.agg' (.fl (.cons (Rn.accA (i' := 4) (nl rfl) rfl) .nil))) (.fl .nil)) (.flat (by kernel_rfl)) newflat_nil)
   refine TS.drawT [⟨45, [ag [iv r1.1, accV 4 r1.2.length], .int .u8 o57], (H8_7 p1 p2 p3 r1 r32 v43), ag [iv r59.1, .bool r59.2], []⟩] hT mixed 8 [] (S8_5 p3 r32 v43 v42 r1 o57 r59) (H8_6 p1 p2 p3 r1 r32 v43 r59) ?_ ?_
   · exact QJ.rn (qs (st 136 [(2, sv 2 p3.length ANY), (7, pt 3 0), (8, accV 5 r32.length), (9, accV 6 v43.length), (11, iv v42), (41, .bool true), (44, accV 6 v43.length), (45, ag [iv r1.1, accV 4 r1.2.length]), (46, sv 2 p3.length ANY), (47, iv v42)]) (H8_7 p1 p2 p3 r1 r32 v43) [] []) 4 (QJ.o { val := .pointer (some ⟨2, 0 + (Int.toNat v42) * 1, none⟩) } (q_ixS 2 0 ((Int.toNat v42) * 1) (by kernel_rfl) hg56) (QJ.o { val := .int .u8 o57 } (q_n1a Try.prog (H8_7 p1 p2 p3 r1 r32 v43) 5 2 (0 + (Int.toNat v42) * 1) p3 e5 1 5 (Int.toNat v42) 0 0 h58) (QJ.o { val := ag [iv r59.1, .bool r59.2], new := [] } (qOf_call (g := 45) (args := [ag [iv r1.1, accV 4 r1.2.length], .int .u8 o57]) (by kernel_rfl) lookC_hit) (QJ.rn (qs (S8_5 p3 r32 v43 v42 r1 o57 r59) (H8_6 p1 p2 p3 r1 r32 v43 r59) [(7, 7, 8)] []) 1 (QJ.dn ⟨by kernel_rfl, by kernel_rfl, by kernel_rfl⟩)))))
   refine TI.rn 0 [2, 7, 8, 11, 44, 51] [0, 1, 2, 3, 4, 5, 6, 7] (st 136 [(2, sv 2 p3.length ANY), (7, pt 3 0), (8, accV 5 r32.length), (11, iv v42), (44, accV 6 v43.length), (51, sv 7 1 1)]) (H8_6 p1 p2 p3 r1 r32 v43 r59) (TI.acc (l := v43) (b := 6) (ts := #[25, 25]) (e := 50) (bytes := 16) (z := ag [iv 0, .bool false]) (y := sv 7 1 1) (ys := [(r59.1, r59.2)]) (xs := List.flatMap e50 ([(r59.1, r59.2)])) (m := 1) (s := 2) (enc := e50) (by kernel_rfl) (by kernel_rfl) (by decide) (by kernel_rfl) (by kernel_rfl) (by kernel_rfl) (by kernel_rfl) (by kernel_rfl) (by kernel_rfl) (by kernel_rfl) (by kernel_rfl) (fun _ => rfl) rfl rfl (by omega) [2, 7, 8, 11, 52] [0, 1, 2, 3, 4, 5, 8] (a2 := (st 136 [(2, sv 2 p3.length ANY), (7, pt 3 0), (8, accV 5 r32.length), (11, iv v42), (52, sv 8 (List.length (v43 ++ [(r59.1, r59.2)])) UNK)])) (h2 := [ab 84 e84 p1, ab 5 e5 p2, ab 5 e5 p3, cl 24 [iv r1.1, accV 4 r1.2.length], ab 86 e86 r1.2, ab 50 e50 r32, .dead, .dead, .cells 50 (List.flatMap e50 (v43 ++ [(r59.1, r59.2)]))]) (by kernel_rfl) (TI.ra 1 [2, 7, 8, 9, 11] (st 136 [(2, sv 2 p3.length ANY), (7, pt 3 0), (8, accV 5 r32.length), (9, sv 8 (List.length (v43 ++ [(r59.1, r59.2)])) UNK), (11, iv v42)]) (TI.dn (NX.bk (NX.sq (TS.rg (TI.ra 3 [2, 7, 8, 9, 11] (st 136 [(2, sv 2 p3.length ANY), (7, pt 3 0), (8, accV 5 r32.length), (9, sv 8 (List.length (v43 ++ [(r59.1, r59.2)])) UNK), (11, iv (w64 (v42 + 1)))]) (TI.dn ?_))))))))
   exact Rd.again (a2 := (st 136 [(2, sv 2 p3.length ANY), (7, pt 3 0), (8, accV 5 r32.length), (9, accV 6 (List.length (v43 ++ [(r59.1, r59.2)]))), (11, iv (w64 (v42 + 1)))])) (h2 := [ab 84 e84 p1, ab 5 e5 p2, ab 5 e5 p3, cl 24 [iv r1.1, accV 4 r1.2.length], ab 86 e86 r1.2, ab 50 e50 r32, accB 50 (List.length (v43 ++ [(r59.1, r59.2)])) (List.flatMap e50 (v43 ++ [(r59.1, r59.2)]))]) (Wk.an [3, 4, 5, 8] (.ac (.ac (.ac (.lt (.fl (.cons (Rn.acc (nl rfl) rfl) .nil)) (.ac (.ac (.cons (At.accU (by kernel_rfl) rfl (fun _ => rfl)) (.nil _)))))))) [sv 2 p3.length ANY, pt 3 0, accV 5 r32.length, sv 8 (List.length (v43 ++ [(r59.1, r59.2)])) UNK, iv (w64 (v42 + 1))] (.sl (.pp (.cons (Rn.acc (nl rfl) rfl) (.cons (Rn.accU (nl rfl) rfl (by simp)) (.fl .nil)))))) (ih (v43 ++ [(r59.1, r59.2)]) (w64 (v42 + 1)) _ hF)
  | false =>
   replace hF := of_neg hF rfl
   refine TS.cdF (.tmp 41) (TS.ex 2 (NX.sqX ?_))
   have hF := sj hF
   subst hF
   exact Rd.out (e := .exit 2) (by intro h; cases h) (And.intro rfl (Wk.an [3, 4, 5, 6] (.ac (.ac (.ac (.lt (.fl (.cons (Rn.acc (nl rfl) rfl) .nil)) (.ac (.ac (.ac (.nil _)))))))) [pt 3 0, accV 5 r32.length, accV 6 v43.length] (.pp (.cons (Rn.acc (nl rfl) rfl) (.cons (Rn.acc (nl rfl) rfl) .nil)))))
 rcases Bool.eq_false_or_eq_true (decide (v42 < (p3.length : Int))) with hc54 | hc54
 · replace hm62 := of_pos hm62 hc54
   have hm62 := sj hm62
   subst hm62
   exact TS.rg (TI.ra 3 [2, 7, 8, 9, 11, 34, 36] (S8_15 p3 r32 v43 v42) (TI.o { val := .bool true } (q_conv (e := decide (v42 < (p3.length : Int))) (b := true) (by kernel_rfl) hc54) [2, 7, 8, 9, 11, 37] [0, 1, 2, 3, 4, 5, 6] (st 136 [(2, sv 2 p3.length ANY), (7, pt 3 0), (8, accV 5 r32.length), (9, accV 6 v43.length), (11, iv v42), (37, .bool true)]) (H8_7 p1 p2 p3 r1 r32 v43) (TI.ra 4 [2, 7, 8, 9, 11, 41] (st 136 [(2, sv 2 p3.length ANY), (7, pt 3 0), (8, accV 5 r32.length), (9, accV 6 v43.length), (11, iv v42), (41, .bool (decide (v42 < 6)))]) (TI.dn hK))))
 replace hm62 := of_neg hm62 hc54
 have hm62 := sj hm62
 subst hm62
 exact TS.rg (TI.ra 3 [2, 7, 8, 9, 11, 34, 36] (S8_15 p3 r32 v43 v42) (TI.o { val := .bool false } (q_conv (e := decide (v42 < (p3.length : Int))) (b := false) (by kernel_rfl) hc54) [2, 7, 8, 9, 11, 37] [0, 1, 2, 3, 4, 5, 6] (st 136 [(2, sv 2 p3.length ANY), (7, pt 3 0), (8, accV 5 r32.length), (9, accV 6 v43.length), (11, iv v42), (37, .bool false)]) (H8_7 p1 p2 p3 r1 r32 v43) (TI.ra 4 [2, 7, 8, 9, 11, 41] (st 136 [(2, sv 2 p3.length ANY), (7, pt 3 0), (8, accV 5 r32.length), (9, accV 6 v43.length), (11, iv v42), (41, .bool false)]) (TI.dn hK))))
theorem B8 (p0 : Int) (p1 : List I2) (p2 p3 : List Int) (r : Bool) (hF : F8 p0 p1 p2 p3 = some r) : TS Try.prog 3 3 c8 (st 136 [(0, ag [.int .u8 p0, sv 0 p1.length ANY]), (1, sv 1 p2.length ANY), (2, sv 2 p3.length ANY)]) [ab 84 e84 p1, ab 5 e5 p2, ab 5 e5 p3] (NX Try.prog 3 3 [] (FinP Try.prog Try.f8 3 (V8 3 r) (N8 3 r))) := by
 unfold F8 at hF
 refine TS.sq (TS.rg (TI.rn 2 [1, 2, 3] [0, 1, 2, 3] (st 136 [(1, sv 1 p2.length ANY), (2, sv 2 p3.length ANY), (3, pt 3 0)]) [ab 84 e84 p1, ab 5 e5 p2, ab 5 e5 p3, cl 71 [.int .u8 p0, sv 0 p1.length ANY]] (TI.dn (NX.sq (TS.sq ?_)))))
 obtain ⟨r1, h2, hF⟩ := of_do hF
 refine TS.rg (TI.rn 1 [1, 2, 13] [0, 1, 2] (st 136 [(1, sv 1 p2.length ANY), (2, sv 2 p3.length ANY), (13, ag [.int .u8 p0, sv 0 p1.length ANY])]) [ab 84 e84 p1, ab 5 e5 p2, ab 5 e5 p3, .dead] (TI.cp 40 [ag [.int .u8 p0, sv 0 p1.length ANY]] (ag [iv r1.1, accV 4 r1.2.length]) [ab 86 e86 r1.2] (PureSim.ren (hc := [ab 84 e84 p1]) (fun i => List.getD [(0, 0)] i (0, 0)) (C40 _ _ _ h2) (.ac (.nil _)) (.cons (Rn.agg' (.fl (.cons (Rn.any _ _ _ _ _ _ (nl rfl) rfl rfl (by decide)) .nil))) .nil) (Rn.agg' (.fl (.cons (Rn.acc (i' := 4) (nl rfl) rfl) .nil))) (newflat_cons (accB_flat (fun _ => rfl)) newflat_nil)) (TI.rn 2 [1, 2, 7] [0, 1, 2, 4, 5] (st 136 [(1, sv 1 p2.length ANY), (2, sv 2 p3.length ANY), (7, pt 5 0)]) [ab 84 e84 p1, ab 5 e5 p2, ab 5 e5 p3, .dead, ab 86 e86 r1.2, cl 24 [iv r1.1, accV 4 r1.2.length]] (TI.dn (NX.sq (TS.sq (TS.rg (TI.ra 2 [1, 2, 7, 8, 9] (st 136 [(1, sv 1 p2.length ANY), (2, sv 2 p3.length ANY), (7, pt 5 0), (8, .slice none 0 0), (9, .slice none 0 0)]) ?_))))))))
 refine TI.dn (NX.sq (TS.sq (TS.sq (TS.rg (TI.ra 1 [1, 2, 7, 8, 9, 10] (st 136 [(1, sv 1 p2.length ANY), (2, sv 2 p3.length ANY), (7, pt 5 0), (8, .slice none 0 0), (9, .slice none 0 0), (10, iv 0)]) (TI.dn (NX.sq (TS.bk 0 ?_))))))))
 obtain ⟨r32, h33, hF⟩ := of_do hF
 refine TS.lp (TL.weak (a2 := (st 136 [(1, sv 1 p2.length ANY), (2, sv 2 p3.length ANY), (7, pt 3 0), (8, accV 5 (List.length ([]))), (9, .slice none 0 0), (10, iv 0)])) (h2 := [ab 84 e84 p1, ab 5 e5 p2, ab 5 e5 p3, cl 24 [iv r1.1, accV 4 r1.2.length], ab 86 e86 r1.2, accB 50 (List.length ([])) (List.flatMap e50 ([]))]) (Wk.an [5, 4, 6] (.ac (.ac (.ac (.lt (.fl (.cons (Rn.acc (nl rfl) rfl) .nil)) (.ac (.cons At.accN (.nil _))))))) [sv 1 p2.length ANY, sv 2 p3.length ANY, pt 5 0, .slice none 0 0, .slice none 0 0, iv 0] (.sl (.sl (.pp (.cons (Rn.accN) (.fl (.fl .nil))))))) (TL.post (L8l0 p1 p2 p3 r1 ([]) 0 r32 h33) ?_))
 rintro e a1 h1 hp
 obtain ⟨rfl, hw⟩ := hp
 refine ⟨(st 136 [(2, sv 2 p3.length ANY), (7, pt 3 0), (8, accV 5 r32.length), (9, .slice none 0 0)]), [ab 84 e84 p1, ab 5 e5 p2, ab 5 e5 p3, cl 24 [iv r1.1, accV 4 r1.2.length], ab 86 e86 r1.2, ab 50 e50 r32], (NX.bkX (NX.sq (TS.sq (TS.sq (TS.rg (TI.ra 1 [2, 7, 8, 9, 11] (st 136 [(2, sv 2 p3.length ANY), (7, pt 3 0), (8, accV 5 r32.length), (9, .slice none 0 0), (11, iv 0)]) (TI.dn (NX.sq ?_)))))))), hw⟩
 refine TS.bk 2 ?_
 obtain ⟨r63, h64, hF⟩ := of_do hF
 refine TS.lp (TL.weak (a2 := (st 136 [(2, sv 2 p3.length ANY), (7, pt 3 0), (8, accV 5 r32.length), (9, accV 6 (List.length ([]))), (11, iv 0)])) (h2 := [ab 84 e84 p1, ab 5 e5 p2, ab 5 e5 p3, cl 24 [iv r1.1, accV 4 r1.2.length], ab 86 e86 r1.2, ab 50 e50 r32, accB 50 (List.length ([])) (List.flatMap e50 ([]))]) (Wk.an [3, 4, 5, 6] (.ac (.ac (.ac (.lt (.fl (.cons (Rn.acc (nl rfl) rfl) .nil)) (.ac (.ac (.cons At.accN (.nil _)))))))) [sv 2 p3.length ANY, pt 3 0, accV 5 r32.length, .slice none 0 0, iv 0] (.sl (.pp (.cons (Rn.acc (nl rfl) rfl) (.cons (Rn.accN) (.fl .nil)))))) (TL.post (L8l1 p1 p2 p3 r1 r32 ([]) 0 r63 h64) ?_))
 rintro e a1 h1 hp
 obtain ⟨rfl, hw⟩ := hp
 refine ⟨(st 136 [(7, pt 3 0), (8, accV 5 r32.length), (9, accV 6 r63.length)]), (H8_8 p1 p2 p3 r1 r32 r63), (NX.bkX (NX.sq (TS.sq (TS.sq ?_)))), hw⟩
 obtain ⟨r65, h66, hF⟩ := of_do hF
 obtain ⟨r67, h68, hF⟩ := of_do hF
 obtain ⟨m74, hm110, hF⟩ := of_do hF
 have hK : NX Try.prog 3 3 [.sq c8.s2.s2.s2.s2.s2.s1.s2, .sq c8.s2.s2.s2.s2.s2.s2] (FinP Try.prog Try.f8 3 (V8 3 r) (N8 3 r)) .normal (st 136 [(7, pt 3 0), (8, accV 5 r32.length), (9, accV 6 r63.length), (70, .bool m74)]) (H8_8 p1 p2 p3 r1 r32 r63) := by
  refine NX.sq ?_
  cases m74 with
  | true =>
   replace hF := of_pos hF rfl
   refine TS.cdT (.tmp 70) (TS.sq (TS.rg (TI.rn 1 [6] [0, 1, 2] (st 136 [(6, .bool false)]) (H8_19 p1 p2 p3) (TI.dn (NX.sq (TS.rt (NX.sqR ?_)))))))
   have hF := sj hF
   subst hF
   exact ⟨.inr rfl, rfl, .bool false, by kernel_rfl, WkV.flat0 (by kernel_rfl) (nl rfl)⟩
  | false =>
   replace hF := of_neg hF rfl
   refine TS.cdF (.tmp 70) (TS.sk (NX.sq (TS.sq ?_)))
   obtain ⟨r75, h76, hF⟩ := of_do hF
   obtain ⟨m95, hm109, hF⟩ := of_do hF
   have hK : NX Try.prog 3 3 [.sq c8.s2.s2.s2.s2.s2.s2.s2] (FinP Try.prog Try.f8 3 (V8 3 r) (N8 3 r)) .normal (st 136 [(7, pt 3 0), (8, accV 5 r32.length), (9, accV 6 r63.length), (12, .bool m95)]) (H8_8 p1 p2 p3 r1 r32 r63) := by
    refine NX.sq (TS.sq ?_)
    obtain ⟨r96, h97, hF⟩ := of_do hF
    obtain ⟨m107, hm108, hF⟩ := of_do hF
    have hK : NX Try.prog 3 3 [.sq c8.s2.s2.s2.s2.s2.s2.s2.s2] (FinP Try.prog Try.f8 3 (V8 3 r) (N8 3 r)) .normal (st 136 [(6, .bool m107)]) (H8_18 p1 p2 p3) := by
     refine NX.sq (TS.rt ?_)
     have hF := sj hF
     subst hF
     exact ⟨.inr rfl, rfl, .bool m107, by kernel_rfl, WkV.flat0 (by kernel_rfl) (nl rfl)⟩
    rcases Bool.eq_false_or_eq_true ((r96 == 0) == m95) with hc98 | hc98
    · replace hm108 := of_pos hm108 hc98
      rcases Bool.eq_false_or_eq_true (!m95) with hc99 | hc99
      · replace hm108 := of_pos hm108 hc99
        have hX := of_do hm108
        clear hm108
        obtain ⟨r100, h101, hm108⟩ := hX
        have hm108 := sj hm108
        subst hm108
        refine TS.rg (TI.ra 3 [7, 12, 116, 117, 118] (S8_20 m95 r1 r32 r63) (TI.cp 34 [ag [iv r1.1, accV 4 r1.2.length], accV 5 r32.length, accV 6 r63.length] (iv r96) [] (PureSim.ren (hc := (H8_21 r1 r32 r63)) (fun i => List.getD [(4, 0), (5, 0), (6, 0)] i (0, 0)) (C34 _ _ _ _ _ h97) (.ac (.ac (.ac (.nil _)))) (.cons (Rn.agg' (.fl (.cons (Rn.accA (i' := 4) (nl rfl) rfl) .nil))) (.cons (Rn.accA (i' := 5) (nl rfl) rfl) (.cons (Rn.accA (i' := 6) (nl rfl) rfl) .nil))) (.flat (by kernel_rfl)) newflat_nil) (TI.rn 2 [7, 12, 120, 121] [0, 1, 2, 3, 4] (S8_25 m95 r96) (H8_13 p1 p2 p3 r1) (TI.o { val := .bool true } (q_conv (e := (r96 == 0) == m95) (b := true) (by kernel_rfl) hc98) [7, 12, 122] [0, 1, 2, 3, 4] (st 136 [(7, pt 3 0), (12, .bool m95), (122, .bool true)]) (H8_13 p1 p2 p3 r1) (TI.ra 2 [7, 123, 124] (st 136 [(7, pt 3 0), (123, .bool true), (124, .bool m95)]) (TI.o { val := .bool true } (q_conv (e := !m95) (b := true) (by kernel_rfl) hc99) [7, 123, 125] [0, 1, 2, 3, 4] (st 136 [(7, pt 3 0), (123, .bool true), (125, .bool true)]) (H8_13 p1 p2 p3 r1) (TI.rn 8 [133] [0, 1, 2] (st 136 [(133, .bool true)]) (H8_19 p1 p2 p3) (TI.cf (C15 _ h101) ?_))))))))
        exact TI.ra 2 [6] (st 136 [(6, .bool r100)]) (TI.dn (TS.weak (Wk.pad 1) hK))
      replace hm108 := of_neg hm108 hc99
      have hX := of_do hm108
      clear hm108
      obtain ⟨r102, h103, hm108⟩ := hX
      rcases Bool.eq_false_or_eq_true ((r102.length : Int) == 0) with hc104 | hc104
      · replace hm108 := of_pos hm108 hc104
        have hX := of_do hm108
        clear hm108
        obtain ⟨r105, h106, hm108⟩ := hX
        have hm108 := sj hm108
        subst hm108
        refine TS.rg (TI.ra 3 [7, 12, 116, 117, 118] (S8_20 m95 r1 r32 r63) (TI.cp 34 [ag [iv r1.1, accV 4 r1.2.length], accV 5 r32.length, accV 6 r63.length] (iv r96) [] (PureSim.ren (hc := (H8_21 r1 r32 r63)) (fun i => List.getD [(4, 0), (5, 0), (6, 0)] i (0, 0)) (C34 _ _ _ _ _ h97) (.ac (.ac (.ac (.nil _)))) (.cons (Rn.agg' (.fl (.cons (Rn.accA (i' := 4) (nl rfl) rfl) .nil))) (.cons (Rn.accA (i' := 5) (nl rfl) rfl) (.cons (Rn.accA (i' := 6) (nl rfl) rfl) .nil))) (.flat (by kernel_rfl)) newflat_nil) (TI.rn 2 [7, 12, 120, 121] [0, 1, 2, 3, 4] (S8_25 m95 r96) (H8_13 p1 p2 p3 r1) (TI.o { val := .bool true } (q_conv (e := (r96 == 0) == m95) (b := true) (by kernel_rfl) hc98) [7, 12, 122] [0, 1, 2, 3, 4] (st 136 [(7, pt 3 0), (12, .bool m95), (122, .bool true)]) (H8_13 p1 p2 p3 r1) (TI.ra 2 [7, 123, 124] (st 136 [(7, pt 3 0), (123, .bool true), (124, .bool m95)]) (TI.o { val := .bool false } (q_conv (e := !m95) (b := false) (by kernel_rfl) hc99) [7, 123, 125] [0, 1, 2, 3, 4] (st 136 [(7, pt 3 0), (123, .bool true), (125, .bool false)]) (H8_13 p1 p2 p3 r1) (TI.rn 2 [123, 126, 127] [0, 1, 2, 4] (st 136 [(123, .bool true), (126, .bool false), (127, ag [iv r1.1, accV 4 r1.2.length])]) [ab 84 e84 p1, ab 5 e5 p2, ab 5 e5 p3, .dead, ab 86 e86 r1.2, .dead, .dead] (TI.cp 41 [ag [iv r1.1, accV 4 r1.2.length], .slice none 0 0] (accV 7 r102.length) [ab 3 e3 r102] (PureSim.ren (hc := [ab 86 e86 r1.2, accB 50 (List.length ([])) (List.flatMap e50 ([]))]) (fun i => List.getD [(4, 0), (0, 0)] i (0, 0)) (C41 _ _ _ _ h103) (.ac (.cons At.accN (.nil _))) (.cons (Rn.agg' (.fl (.cons (Rn.accA (i' := 4) (nl rfl) rfl) .nil))) (.cons (Rn.anyN _ _ _ rfl (by decide)) .nil)) (Rn.acc (i' := 7) (nl rfl) rfl) (newflat_cons (accB_flat (fun _ => rfl)) newflat_nil)) ?_))))))))
        exact TI.rn 1 [123, 126, 129] [0, 1, 2] (st 136 [(123, .bool true), (126, .bool false), (129, iv (r102.length : Int))]) (H8_18 p1 p2 p3) (TI.o { val := .bool true } (q_conv (e := (r102.length : Int) == 0) (b := true) (by kernel_rfl) hc104) [123, 126, 130] [0, 1, 2] (st 136 [(123, .bool true), (126, .bool false), (130, .bool true)]) (H8_18 p1 p2 p3) (TI.ra 3 [133] (st 136 [(133, .bool true)]) (TI.cf (C15 _ h106) (TI.ra 2 [6] (st 136 [(6, .bool r105)]) (TI.dn hK)))))
      replace hm108 := of_neg hm108 hc104
      have hm108 := sj hm108
      subst hm108
      refine TS.rg (TI.ra 3 [7, 12, 116, 117, 118] (S8_20 m95 r1 r32 r63) (TI.cp 34 [ag [iv r1.1, accV 4 r1.2.length], accV 5 r32.length, accV 6 r63.length] (iv r96) [] (PureSim.ren (hc := (H8_21 r1 r32 r63)) (fun i => List.getD [(4, 0), (5, 0), (6, 0)] i (0, 0)) (C34 _ _ _ _ _ h97) (.ac (.ac (.ac (.nil _)))) (.cons (Rn.agg' (.fl (.cons (Rn.accA (i' := 4) (nl rfl) rfl) .nil))) (.cons (Rn.accA (i' := 5) (nl rfl) rfl) (.cons (Rn.accA (i' := 6) (nl rfl) rfl) .nil))) (.flat (by kernel_rfl)) newflat_nil) (TI.rn 2 [7, 12, 120, 121] [0, 1, 2, 3, 4] (S8_25 m95 r96) (H8_13 p1 p2 p3 r1) (TI.o { val := .bool true } (q_conv (e := (r96 == 0) == m95) (b := true) (by kernel_rfl) hc98) [7, 12, 122] [0, 1, 2, 3, 4] (st 136 [(7, pt 3 0), (12, .bool m95), (122, .bool true)]) (H8_13 p1 p2 p3 r1) (TI.ra 2 [7, 123, 124] (st 136 [(7, pt 3 0), (123, .bool true), (124, .bool m95)]) (TI.o { val := .bool false } (q_conv (e := !m95) (b := false) (by kernel_rfl) hc99) [7, 123, 125] [0, 1, 2, 3, 4] (st 136 [(7, pt 3 0), (123, .bool true), (125, .bool false)]) (H8_13 p1 p2 p3 r1) (TI.rn 2 [123, 126, 127] [0, 1, 2, 4] (st 136 [(123, .bool true), (126, .bool false), (127, ag [iv r1.1, accV 4 r1.2.length])]) [ab 84 e84 p1, ab 5 e5 p2, ab 5 e5 p3, .dead, ab 86 e86 r1.2, .dead, .dead] (TI.cp 41 [ag [iv r1.1, accV 4 r1.2.length], .slice none 0 0] (accV 7 r102.length) [ab 3 e3 r102] (PureSim.ren (hc := [ab 86 e86 r1.2, accB 50 (List.length ([])) (List.flatMap e50 ([]))]) (fun i => List.getD [(4, 0), (0, 0)] i (0, 0)) (C41 _ _ _ _ h103) (.ac (.cons At.accN (.nil _))) (.cons (Rn.agg' (.fl (.cons (Rn.accA (i' := 4) (nl rfl) rfl) .nil))) (.cons (Rn.anyN _ _ _ rfl (by decide)) .nil)) (Rn.acc (i' := 7) (nl rfl) rfl) (newflat_cons (accB_flat (fun _ => rfl)) newflat_nil)) ?_))))))))
      exact TI.rn 1 [123, 126, 129] [0, 1, 2] (st 136 [(123, .bool true), (126, .bool false), (129, iv (r102.length : Int))]) (H8_18 p1 p2 p3) (TI.o { val := .bool false } (q_conv (e := (r102.length : Int) == 0) (b := false) (by kernel_rfl) hc104) [123, 126, 130] [0, 1, 2] (st 136 [(123, .bool true), (126, .bool false), (130, .bool false)]) (H8_18 p1 p2 p3) (TI.ra 6 [6] (st 136 [(6, .bool false)]) (TI.dn hK)))
    replace hm108 := of_neg hm108 hc98
    have hm108 := sj hm108
    subst hm108
    exact TS.rg (TI.ra 3 [7, 12, 116, 117, 118] (S8_20 m95 r1 r32 r63) (TI.cp 34 [ag [iv r1.1, accV 4 r1.2.length], accV 5 r32.length, accV 6 r63.length] (iv r96) [] (PureSim.ren (hc := (H8_21 r1 r32 r63)) (fun i => List.getD [(4, 0), (5, 0), (6, 0)] i (0, 0)) (C34 _ _ _ _ _ h97) (.ac (.ac (.ac (.nil _)))) (.cons (Rn.agg' (.fl (.cons (Rn.accA (i' := 4) (nl rfl) rfl) .nil))) (.cons (Rn.accA (i' := 5) (nl rfl) rfl) (.cons (Rn.accA (i' := 6) (nl rfl) rfl) .nil))) (.flat (by kernel_rfl)) newflat_nil) (TI.rn 2 [7, 12, 120, 121] [0, 1, 2, 3, 4] (S8_25 m95 r96) (H8_13 p1 p2 p3 r1) (TI.o { val := .bool false } (q_conv (e := (r96 == 0) == m95) (b := false) (by kernel_rfl) hc98) [7, 12, 122] [0, 1, 2, 3, 4] (st 136 [(7, pt 3 0), (12, .bool m95), (122, .bool false)]) (H8_13 p1 p2 p3 r1) (TI.rn 14 [6] [0, 1, 2] (st 136 [(6, .bool false)]) (H8_19 p1 p2 p3) (TI.dn (TS.weak (Wk.pad 1) hK)))))))
   cases r75 with
   | true =>
    replace hm109 := of_pos hm109 rfl
    have hX := of_do hm109
    clear hm109
    obtain ⟨r77, h78, hm109⟩ := hX
    cases r77 with
    | true =>
     replace hm109 := of_pos hm109 rfl
     have hX := of_guard hm109
     clear hm109
     obtain ⟨hg79, hm109⟩ := hX
     have hX := of_do hm109
     clear hm109
     obtain ⟨o80, h81, hm109⟩ := hX
     replace h81 := sj h81
     have hX := of_guard hm109
     clear hm109
     obtain ⟨hg82, hm109⟩ := hX
     have hX := of_do hm109
     clear hm109
     obtain ⟨o83, h84, hm109⟩ := hX
     replace h84 := sj h84
     have hX := of_do hm109
     clear hm109
     obtain ⟨r85, h86, hm109⟩ := hX
     rcases Bool.eq_false_or_eq_true (((o80.1 == r85.1) && ((o80.2 == r85.2) && true))) with hc87 | hc87
     · replace hm109 := of_pos hm109 hc87
       have hX := of_guard hm109
       clear hm109
       obtain ⟨hg88, hm109⟩ := hX
       have hX := of_do hm109
       clear hm109
       obtain ⟨o89, h90, hm109⟩ := hX
       replace h90 := sj h90
       rcases Bool.eq_false_or_eq_true (((o89.1 == o80.1) && ((o89.2 == o80.2) && true))) with hc91 | hc91
       · replace hm109 := of_pos hm109 hc91
         have hX := of_guard hm109
         clear hm109
         obtain ⟨hg92, hm109⟩ := hX
         have hX := of_do hm109
         clear hm109
         obtain ⟨o93, h94, hm109⟩ := hX
         replace h94 := sj h94
         have hm109 := sj hm109
         subst hm109
         have hT : ∀ e ∈ ([⟨42, [ag [iv r1.1, accV 4 r1.2.length], accV 5 r32.length], (H8_8 p1 p2 p3 r1 r32 r63), .bool true, []⟩, ⟨42, [ag [iv r1.1, accV 4 r1.2.length], accV 6 r63.length], (H8_8 p1 p2 p3 r1 r32 r63), .bool true, []⟩, ⟨43, [ag [iv o83.1, .bool o83.2]], (H8_8 p1 p2 p3 r1 r32 r63), ag [iv r85.1, .bool r85.2], []⟩] : List Entry), PureSim Try.prog e.g e.args e.h e.v e.new := by
          intro e he
          simp only [List.mem_cons, List.not_mem_nil, or_false] at he
          rcases he with rfl | rfl | rfl
          · exact (PureSim.ren (hc := (H8_23 r1 r32)) (fun i => List.getD [(4, 0), (5, 0)] i (0, 0)) (C42 _ _ _ _ h76) (.ac (.ac (.nil _))) (.cons (Rn.agg' (.fl (.cons (Rn.accA (i' := 4) (nl rfl) rfl) .nil))) (.cons (Rn.accA (i' := 5) (nl rfl) rfl) .nil)) (.flat (by kernel_rfl)) newflat_nil)
          · exact (PureSim.ren (hc := (H8_24 r1 r63)) (fun i => List.getD [(4, 0), (6, 0)] i (0, 0)) (C42 _ _ _ _ h78) (.ac (.ac (.nil _))) (.cons (Rn.agg' (.fl (.cons (Rn.accA (i' := 4) (nl rfl) rfl) .nil))) (.cons (Rn.accA (i' := 6) (nl rfl) rfl) .nil)) (.flat (by kernel_rfl)) newflat_nil)
          exact PureSim.ak (C43 _ _ _ h86)
         refine TS.dp [⟨42, [ag [iv r1.1, accV 4 r1.2.length], accV 5 r32.length], (H8_8 p1 p2 p3 r1 r32 r63), .bool true, []⟩, ⟨42, [ag [iv r1.1, accV 4 r1.2.length], accV 6 r63.length], (H8_8 p1 p2 p3 r1 r32 r63), .bool true, []⟩, ⟨43, [ag [iv o83.1, .bool o83.2]], (H8_8 p1 p2 p3 r1 r32 r63), ag [iv r85.1, .bool r85.2], []⟩] hT mixed 43 [7, 8, 9, 12] [0, 1, 2, 3, 4, 5, 6] (st 136 [(7, pt 3 0), (8, accV 5 r32.length), (9, accV 6 r63.length), (12, .bool ((o93.1 == o83.1) && ((o93.2 == o83.2) && true)))]) (H8_8 p1 p2 p3 r1 r32 r63) ?_ ?_
         · refine QJ.rn (qs (S8_17 r32 r63 r1) (H8_8 p1 p2 p3 r1 r32 r63) [] []) 2 (QJ.o { val := .bool true, new := [] } (qOf_call (g := 42) (args := [ag [iv r1.1, accV 4 r1.2.length], accV 5 r32.length]) (by kernel_rfl) lookC_hit) (QJ.rn (qs (S8_10 r32 r63 r1) (H8_8 p1 p2 p3 r1 r32 r63) [] []) 3 ?_))
           refine QJ.o { val := .bool true, new := [] } (qOf_call (g := 42) (args := [ag [iv r1.1, accV 4 r1.2.length], accV 6 r63.length]) (by kernel_rfl) (lookC_skip (by intro _ ha hh; first | (exact absurd (congrArg List.length hh) (Nat.ne_of_beq_eq_false rfl)) | (have hr := sj (h76.symm.trans (Eq.trans (congr (congr (congrArg F42 (Eq.refl r1.1)) (Eq.refl r1.2)) (acc_ne (by decide) (show accV 5 r32.length = accV 6 r63.length from congrArg (argV 1) ha))) h78)); first | (subst hr; rfl) | (cases hr; done) | (cases hr; rfl))) lookC_hit)) (QJ.rn (qs (S8_4 r32 r63 r1) (H8_8 p1 p2 p3 r1 r32 r63) [] []) 6 (QJ.o { val := .pointer (some ⟨5, 0 + (Int.toNat (w64 ((r32.length : Int) - 1))) * 2, none⟩) } (q_ixAcc (P := Try.prog) (t := 25) (s := 2) (e := 50) 5 r32.length (by kernel_rfl) hg79 (by kernel_rfl) (by kernel_rfl)) (QJ.o { val := ag [iv o80.1, .bool o80.2] } (q_nAa Try.prog (H8_8 p1 p2 p3 r1 r32 r63) 50 5 (0 + (Int.toNat (w64 ((r32.length : Int) - 1))) * 2) r32 e50 2 50 (Int.toNat (w64 ((r32.length : Int) - 1))) (0, false) h81) (QJ.rn (qs (S8_2 r32 r63 r1 o80) (H8_8 p1 p2 p3 r1 r32 r63) [] []) 1 (QJ.o { val := .pointer (some ⟨5, 0 + (Int.toNat 0) * 2, none⟩) } (q_ixAcc (P := Try.prog) (t := 25) (s := 2) (e := 50) 5 r32.length (by kernel_rfl) hg82 (by kernel_rfl) (by kernel_rfl)) (QJ.o { val := ag [iv o83.1, .bool o83.2] } (q_nAa Try.prog (H8_8 p1 p2 p3 r1 r32 r63) 50 5 (0 + (Int.toNat 0) * 2) r32 e50 2 50 (Int.toNat 0) (0, false) h84) (QJ.o { val := ag [iv r85.1, .bool r85.2], new := [] } (qOf_call (g := 43) (args := [ag [iv o83.1, .bool o83.2]]) (by kernel_rfl) (lookC_skip (fun hg => absurd (show (42 : Nat) = 43 from hg) (by decide)) (lookC_skip (fun hg => absurd (show (42 : Nat) = 43 from hg) (by decide)) lookC_hit))) (QJ.o { val := .bool true } (q_conv (e := ((o80.1 == r85.1) && ((o80.2 == r85.2) && true))) (b := true) (by kernel_rfl) hc87) ?_))))))))
           refine QJ.rn (qs (S8_1 r32 r63 r1 o80 o83 r85) (H8_8 p1 p2 p3 r1 r32 r63) [] []) 3 (QJ.o { val := .pointer (some ⟨6, 0 + (Int.toNat 0) * 2, none⟩) } (q_ixAcc (P := Try.prog) (t := 25) (s := 2) (e := 50) 6 r63.length (by kernel_rfl) hg88 (by kernel_rfl) (by kernel_rfl)) (QJ.o { val := ag [iv o89.1, .bool o89.2] } (q_nAa Try.prog (H8_8 p1 p2 p3 r1 r32 r63) 50 6 (0 + (Int.toNat 0) * 2) r63 e50 2 50 (Int.toNat 0) (0, false) h90) (QJ.rn (qs (S8_0 r32 r63 r1 o80 o83 r85 o89) (H8_8 p1 p2 p3 r1 r32 r63) [] []) 4 (QJ.o { val := .pointer (some ⟨5, 0 + (Int.toNat (w64 ((r32.length : Int) - 1))) * 2, none⟩) } (q_ixAcc (P := Try.prog) (t := 25) (s := 2) (e := 50) 5 r32.length (by kernel_rfl) hg79 (by kernel_rfl) (by kernel_rfl)) (QJ.o { val := ag [iv o80.1, .bool o80.2] } (q_nAa Try.prog (H8_8 p1 p2 p3 r1 r32 r63) 50 5 (0 + (Int.toNat (w64 ((r32.length : Int) - 1))) * 2) r32 e50 2 50 (Int.toNat (w64 ((r32.length : Int) - 1))) (0, false) h81) (QJ.o { val := .bool true } (q_conv (e := ((o89.1 == o80.1) && ((o89.2 == o80.2) && true))) (b := true) (by kernel_rfl) hc91) (QJ.rn (qs (st 136 [(7, pt 3 0), (8, accV 5 r32.length), (9, accV 6 r63.length), (70, .bool false), (71, ag [iv r1.1, accV 4 r1.2.length]), (72, accV 5 r32.length), (73, .bool true), (74, .bool true), (75, ag [iv r1.1, accV 4 r1.2.length]), (76, accV 6 r63.length), (77, .bool true), (78, .bool true), (79, .bool true), (80, accV 5 r32.length), (81, accV 5 r32.length), (82, iv (r32.length : Int)), (83, iv (w64 ((r32.length : Int) - 1))), (84, .pointer (some ⟨5, 0 + (Int.toNat (w64 ((r32.length : Int) - 1))) * 2, none⟩)), (85, ag [iv o80.1, .bool o80.2]), (86, accV 5 r32.length), (87, .pointer (some ⟨5, 0 + (Int.toNat 0) * 2, none⟩)), (88, ag [iv o83.1, .bool o83.2]), (89, ag [iv r85.1, .bool r85.2]), (90, .bool true), (91, .bool true), (92, .bool true), (93, accV 6 r63.length), (94, .pointer (some ⟨6, 0 + (Int.toNat 0) * 2, none⟩)), (95, ag [iv o89.1, .bool o89.2]), (96, accV 5 r32.length), (97, accV 5 r32.length), (98, iv (r32.length : Int)), (99, iv (w64 ((r32.length : Int) - 1))), (100, .pointer (some ⟨5, 0 + (Int.toNat (w64 ((r32.length : Int) - 1))) * 2, none⟩)), (101, ag [iv o80.1, .bool o80.2]), (102, .bool true), (103, .bool true), (104, .bool true), (105, accV 6 r63.length), (106, accV 6 r63.length), (107, iv (r63.length : Int)), (108, iv (w64 ((r63.length : Int) - 1)))]) (H8_8 p1 p2 p3 r1 r32 r63) [] []) 6 (QJ.o { val := .pointer (some ⟨6, 0 + (Int.toNat (w64 ((r63.length : Int) - 1))) * 2, none⟩) } (q_ixAcc (P := Try.prog) (t := 25) (s := 2) (e := 50) 6 r63.length (by kernel_rfl) hg92 (by kernel_rfl) (by kernel_rfl)) ?_))))))))
           exact QJ.o { val := ag [iv o93.1, .bool o93.2] } (q_nAa Try.prog (H8_8 p1 p2 p3 r1 r32 r63) 50 6 (0 + (Int.toNat (w64 ((r63.length : Int) - 1))) * 2) r63 e50 2 50 (Int.toNat (w64 ((r63.length : Int) - 1))) (0, false) h94) (QJ.rn (qs (st 136 [(7, pt 3 0), (8, accV 5 r32.length), (9, accV 6 r63.length), (70, .bool false), (71, ag [iv r1.1, accV 4 r1.2.length]), (72, accV 5 r32.length), (73, .bool true), (74, .bool true), (75, ag [iv r1.1, accV 4 r1.2.length]), (76, accV 6 r63.length), (77, .bool true), (78, .bool true), (79, .bool true), (80, accV 5 r32.length), (81, accV 5 r32.length), (82, iv (r32.length : Int)), (83, iv (w64 ((r32.length : Int) - 1))), (84, .pointer (some ⟨5, 0 + (Int.toNat (w64 ((r32.length : Int) - 1))) * 2, none⟩)), (85, ag [iv o80.1, .bool o80.2]), (86, accV 5 r32.length), (87, .pointer (some ⟨5, 0 + (Int.toNat 0) * 2, none⟩)), (88, ag [iv o83.1, .bool o83.2]), (89, ag [iv r85.1, .bool r85.2]), (90, .bool true), (91, .bool true), (92, .bool true), (93, accV 6 r63.length), (94, .pointer (some ⟨6, 0 + (Int.toNat 0) * 2, none⟩)), (95, ag [iv o89.1, .bool o89.2]), (96, accV 5 r32.length), (97, accV 5 r32.length), (98, iv (r32.length : Int)), (99, iv (w64 ((r32.length : Int) - 1))), (100, .pointer (some ⟨5, 0 + (Int.toNat (w64 ((r32.length : Int) - 1))) * 2, none⟩)), (101, ag [iv o80.1, .bool o80.2]), (102, .bool true), (103, .bool true), (104, .bool true), (105, accV 6 r63.length), (106, accV 6 r63.length), (107, iv (r63.length : Int)), (108, iv (w64 ((r63.length : Int) - 1))), (109, .pointer (some ⟨6, 0 + (Int.toNat (w64 ((r63.length : Int) - 1))) * 2, none⟩)), (110, ag [iv o93.1, .bool o93.2]), (111, accV 5 r32.length)]) (H8_8 p1 p2 p3 r1 r32 r63) [] []) 1 (QJ.o { val := .pointer (some ⟨5, 0 + (Int.toNat 0) * 2, none⟩) } (q_ixAcc (P := Try.prog) (t := 25) (s := 2) (e := 50) 5 r32.length (by kernel_rfl) hg82 (by kernel_rfl) (by kernel_rfl)) (QJ.o { val := ag [iv o83.1, .bool o83.2] } (q_nAa Try.prog (H8_8 p1 p2 p3 r1 r32 r63) 50 5 (0 + (Int.toNat 0) * 2) r32 e50 2 50 (Int.toNat 0) (0, false) h84) (QJ.dn ⟨rfl, SJ.la⟩))))
         exact hK
       replace hm109 := of_neg hm109 hc91
       have hm109 := sj hm109
       subst hm109
       have hT : ∀ e ∈ ([⟨42, [ag [iv r1.1, accV 4 r1.2.length], accV 5 r32.length], (H8_8 p1 p2 p3 r1 r32 r63), .bool true, []⟩, ⟨42, [ag [iv r1.1, accV 4 r1.2.length], accV 6 r63.length], (H8_8 p1 p2 p3 r1 r32 r63), .bool true, []⟩, ⟨43, [ag [iv o83.1, .bool o83.2]], (H8_8 p1 p2 p3 r1 r32 r63), ag [iv r85.1, .bool r85.2], []⟩] : List Entry), PureSim Try.prog e.g e.args e.h e.v e.new := by
        intro e he
        simp only [List.mem_cons, List.not_mem_nil, or_false] at he
        rcases he with rfl | rfl | rfl
        · exact (PureSim.ren (hc := (H8_23 r1 r32)) (fun i => List.getD [(4, 0), (5, 0)] i (0, 0)) (C42 _ _ _ _ h76) (.ac (.ac (.nil _))) (.cons (Rn.agg' (.fl (.cons (Rn.accA (i' := 4) (nl rfl) rfl) .nil))) (.cons (Rn.accA (i' := 5) (nl rfl) rfl) .nil)) (.flat (by kernel_rfl)) newflat_nil)
        · exact (PureSim.ren (hc := (H8_24 r1 r63)) (fun i => List.getD [(4, 0), (6, 0)] i (0, 0)) (C42 _ _ _ _ h78) (.ac (.ac (.nil _))) (.cons (Rn.agg' (.fl (.cons (Rn.accA (i' := 4) (nl rfl) rfl) .nil))) (.cons (Rn.accA (i' := 6) (nl rfl) rfl) .nil)) (.flat (by kernel_rfl)) newflat_nil)
        exact PureSim.ak (C43 _ _ _ h86)
       refine TS.dp [⟨42, [ag [iv r1.1, accV 4 r1.2.length], accV 5 r32.length], (H8_8 p1 p2 p3 r1 r32 r63), .bool true, []⟩, ⟨42, [ag [iv r1.1, accV 4 r1.2.length], accV 6 r63.length], (H8_8 p1 p2 p3 r1 r32 r63), .bool true, []⟩, ⟨43, [ag [iv o83.1, .bool o83.2]], (H8_8 p1 p2 p3 r1 r32 r63), ag [iv r85.1, .bool r85.2], []⟩] hT mixed 43 [7, 8, 9, 12] [0, 1, 2, 3, 4, 5, 6] (S8_22 r32 r63) (H8_8 p1 p2 p3 r1 r32 r63) ?_ ?_
       · refine QJ.rn (qs (S8_17 r32 r63 r1) (H8_8 p1 p2 p3 r1 r32 r63) [] []) 2 (QJ.o { val := .bool true, new := [] } (qOf_call (g := 42) (args := [ag [iv r1.1, accV 4 r1.2.length], accV 5 r32.length]) (by kernel_rfl) lookC_hit) (QJ.rn (qs (S8_10 r32 r63 r1) (H8_8 p1 p2 p3 r1 r32 r63) [] []) 3 ?_))
         refine QJ.o { val := .bool true, new := [] } (qOf_call (g := 42) (args := [ag [iv r1.1, accV 4 r1.2.length], accV 6 r63.length]) (by kernel_rfl) (lookC_skip (by intro _ ha hh; first | (exact absurd (congrArg List.length hh) (Nat.ne_of_beq_eq_false rfl)) | (have hr := sj (h76.symm.trans (Eq.trans (congr (congr (congrArg F42 (Eq.refl r1.1)) (Eq.refl r1.2)) (acc_ne (by decide) (show accV 5 r32.length = accV 6 r63.length from congrArg (argV 1) ha))) h78)); first | (subst hr; rfl) | (cases hr; done) | (cases hr; rfl))) lookC_hit)) (QJ.rn (qs (S8_4 r32 r63 r1) (H8_8 p1 p2 p3 r1 r32 r63) [] []) 6 (QJ.o { val := .pointer (some ⟨5, 0 + (Int.toNat (w64 ((r32.length : Int) - 1))) * 2, none⟩) } (q_ixAcc (P := Try.prog) (t := 25) (s := 2) (e := 50) 5 r32.length (by kernel_rfl) hg79 (by kernel_rfl) (by kernel_rfl)) (QJ.o { val := ag [iv o80.1, .bool o80.2] } (q_nAa Try.prog (H8_8 p1 p2 p3 r1 r32 r63) 50 5 (0 + (Int.toNat (w64 ((r32.length : Int) - 1))) * 2) r32 e50 2 50 (Int.toNat (w64 ((r32.length : Int) - 1))) (0, false) h81) (QJ.rn (qs (S8_2 r32 r63 r1 o80) (H8_8 p1 p2 p3 r1 r32 r63) [] []) 1 (QJ.o { val := .pointer (some ⟨5, 0 + (Int.toNat 0) * 2, none⟩) } (q_ixAcc (P := Try.prog) (t := 25) (s := 2) (e := 50) 5 r32.length (by kernel_rfl) hg82 (by kernel_rfl) (by kernel_rfl)) (QJ.o { val := ag [iv o83.1, .bool o83.2] } (q_nAa Try.prog (H8_8 p1 p2 p3 r1 r32 r63) 50 5 (0 + (Int.toNat 0) * 2) r32 e50 2 50 (Int.toNat 0) (0, false) h84) (QJ.o { val := ag [iv r85.1, .bool r85.2], new := [] } (qOf_call (g := 43) (args := [ag [iv o83.1, .bool o83.2]]) (by kernel_rfl) (lookC_skip (fun hg => absurd (show (42 : Nat) = 43 from hg) (by decide)) (lookC_skip (fun hg => absurd (show (42 : Nat) = 43 from hg) (by decide)) lookC_hit))) (QJ.o { val := .bool true } (q_conv (e := ((o80.1 == r85.1) && ((o80.2 == r85.2) && true))) (b := true) (by kernel_rfl) hc87) ?_))))))))
         refine QJ.rn (qs (S8_1 r32 r63 r1 o80 o83 r85) (H8_8 p1 p2 p3 r1 r32 r63) [] []) 3 (QJ.o { val := .pointer (some ⟨6, 0 + (Int.toNat 0) * 2, none⟩) } (q_ixAcc (P := Try.prog) (t := 25) (s := 2) (e := 50) 6 r63.length (by kernel_rfl) hg88 (by kernel_rfl) (by kernel_rfl)) (QJ.o { val := ag [iv o89.1, .bool o89.2] } (q_nAa Try.prog (H8_8 p1 p2 p3 r1 r32 r63) 50 6 (0 + (Int.toNat 0) * 2) r63 e50 2 50 (Int.toNat 0) (0, false) h90) (QJ.rn (qs (S8_0 r32 r63 r1 o80 o83 r85 o89) (H8_8 p1 p2 p3 r1 r32 r63) [] []) 4 (QJ.o { val := .pointer (some ⟨5, 0 + (Int.toNat (w64 ((r32.length : Int) - 1))) * 2, none⟩) } (q_ixAcc (P := Try.prog) (t := 25) (s := 2) (e := 50) 5 r32.length (by kernel_rfl) hg79 (by kernel_rfl) (by kernel_rfl)) (QJ.o { val := ag [iv o80.1, .bool o80.2] } (q_nAa Try.prog (H8_8 p1 p2 p3 r1 r32 r63) 50 5 (0 + (Int.toNat (w64 ((r32.length : Int) - 1))) * 2) r32 e50 2 50 (Int.toNat (w64 ((r32.length : Int) - 1))) (0, false) h81) (QJ.o { val := .bool false } (q_conv (e := ((o89.1 == o80.1) && ((o89.2 == o80.2) && true))) (b := false) (by kernel_rfl) hc91) (QJ.rn (qs (st 136 [(7, pt 3 0), (8, accV 5 r32.length), (9, accV 6 r63.length), (70, .bool false), (71, ag [iv r1.1, accV 4 r1.2.length]), (72, accV 5 r32.length), (73, .bool true), (74, .bool true), (75, ag [iv r1.1, accV 4 r1.2.length]), (76, accV 6 r63.length), (77, .bool true), (78, .bool true), (79, .bool true), (80, accV 5 r32.length), (81, accV 5 r32.length), (82, iv (r32.length : Int)), (83, iv (w64 ((r32.length : Int) - 1))), (84, .pointer (some ⟨5, 0 + (Int.toNat (w64 ((r32.length : Int) - 1))) * 2, none⟩)), (85, ag [iv o80.1, .bool o80.2]), (86, accV 5 r32.length), (87, .pointer (some ⟨5, 0 + (Int.toNat 0) * 2, none⟩)), (88, ag [iv o83.1, .bool o83.2]), (89, ag [iv r85.1, .bool r85.2]), (90, .bool true), (91, .bool true), (92, .bool true), (93, accV 6 r63.length), (94, .pointer (some ⟨6, 0 + (Int.toNat 0) * 2, none⟩)), (95, ag [iv o89.1, .bool o89.2]), (96, accV 5 r32.length), (97, accV 5 r32.length), (98, iv (r32.length : Int)), (99, iv (w64 ((r32.length : Int) - 1))), (100, .pointer (some ⟨5, 0 + (Int.toNat (w64 ((r32.length : Int) - 1))) * 2, none⟩)), (101, ag [iv o80.1, .bool o80.2]), (102, .bool false), (103, .bool false), (104, .bool false), (105, undef), (106, undef), (107, undef), (108, undef), (109, undef), (110, undef), (111, undef), (112, undef), (113, undef)]) (H8_8 p1 p2 p3 r1 r32 r63) [] []) 11 (QJ.dn ⟨rfl, ?_⟩))))))))
         exact SJ.la
       exact hK
     replace hm109 := of_neg hm109 hc87
     have hm109 := sj hm109
     subst hm109
     have hT : ∀ e ∈ ([⟨42, [ag [iv r1.1, accV 4 r1.2.length], accV 5 r32.length], (H8_8 p1 p2 p3 r1 r32 r63), .bool true, []⟩, ⟨42, [ag [iv r1.1, accV 4 r1.2.length], accV 6 r63.length], (H8_8 p1 p2 p3 r1 r32 r63), .bool true, []⟩, ⟨43, [ag [iv o83.1, .bool o83.2]], (H8_8 p1 p2 p3 r1 r32 r63), ag [iv r85.1, .bool r85.2], []⟩] : List Entry), PureSim Try.prog e.g e.args e.h e.v e.new := by
      intro e he
      simp only [List.mem_cons, List.not_mem_nil, or_false] at he
      rcases he with rfl | rfl | rfl
      · exact (PureSim.ren (hc := (H8_23 r1 r32)) (fun i => List.getD [(4, 0), (5, 0)] i (0, 0)) (C42 _ _ _ _ h76) (.ac (.ac (.nil _))) (.cons (Rn.agg' (.fl (.cons (Rn.accA (i' := 4) (nl rfl) rfl) .nil))) (.cons (Rn.accA (i' := 5) (nl rfl) rfl) .nil)) (.flat (by kernel_rfl)) newflat_nil)
      · exact (PureSim.ren (hc := (H8_24 r1 r63)) (fun i => List.getD [(4, 0), (6, 0)] i (0, 0)) (C42 _ _ _ _ h78) (.ac (.ac (.nil _))) (.cons (Rn.agg' (.fl (.cons (Rn.accA (i' := 4) (nl rfl) rfl) .nil))) (.cons (Rn.accA (i' := 6) (nl rfl) rfl) .nil)) (.flat (by kernel_rfl)) newflat_nil)
      exact PureSim.ak (C43 _ _ _ h86)
     refine TS.dp [⟨42, [ag [iv r1.1, accV 4 r1.2.length], accV 5 r32.length], (H8_8 p1 p2 p3 r1 r32 r63), .bool true, []⟩, ⟨42, [ag [iv r1.1, accV 4 r1.2.length], accV 6 r63.length], (H8_8 p1 p2 p3 r1 r32 r63), .bool true, []⟩, ⟨43, [ag [iv o83.1, .bool o83.2]], (H8_8 p1 p2 p3 r1 r32 r63), ag [iv r85.1, .bool r85.2], []⟩] hT mixed 43 [7, 8, 9, 12] [0, 1, 2, 3, 4, 5, 6] (S8_22 r32 r63) (H8_8 p1 p2 p3 r1 r32 r63) ?_ ?_
     · refine QJ.rn (qs (S8_17 r32 r63 r1) (H8_8 p1 p2 p3 r1 r32 r63) [] []) 2 (QJ.o { val := .bool true, new := [] } (qOf_call (g := 42) (args := [ag [iv r1.1, accV 4 r1.2.length], accV 5 r32.length]) (by kernel_rfl) lookC_hit) (QJ.rn (qs (S8_10 r32 r63 r1) (H8_8 p1 p2 p3 r1 r32 r63) [] []) 3 ?_))
       refine QJ.o { val := .bool true, new := [] } (qOf_call (g := 42) (args := [ag [iv r1.1, accV 4 r1.2.length], accV 6 r63.length]) (by kernel_rfl) (lookC_skip (by intro _ ha hh; first | (exact absurd (congrArg List.length hh) (Nat.ne_of_beq_eq_false rfl)) | (have hr := sj (h76.symm.trans (Eq.trans (congr (congr (congrArg F42 (Eq.refl r1.1)) (Eq.refl r1.2)) (acc_ne (by decide) (show accV 5 r32.length = accV 6 r63.length from congrArg (argV 1) ha))) h78)); first | (subst hr; rfl) | (cases hr; done) | (cases hr; rfl))) lookC_hit)) (QJ.rn (qs (S8_4 r32 r63 r1) (H8_8 p1 p2 p3 r1 r32 r63) [] []) 6 (QJ.o { val := .pointer (some ⟨5, 0 + (Int.toNat (w64 ((r32.length : Int) - 1))) * 2, none⟩) } (q_ixAcc (P := Try.prog) (t := 25) (s := 2) (e := 50) 5 r32.length (by kernel_rfl) hg79 (by kernel_rfl) (by kernel_rfl)) (QJ.o { val := ag [iv o80.1, .bool o80.2] } (q_nAa Try.prog (H8_8 p1 p2 p3 r1 r32 r63) 50 5 (0 + (Int.toNat (w64 ((r32.length : Int) - 1))) * 2) r32 e50 2 50 (Int.toNat (w64 ((r32.length : Int) - 1))) (0, false) h81) (QJ.rn (qs (S8_2 r32 r63 r1 o80) (H8_8 p1 p2 p3 r1 r32 r63) [] []) 1 (QJ.o { val := .pointer (some ⟨5, 0 + (Int.toNat 0) * 2, none⟩) } (q_ixAcc (P := Try.prog) (t := 25) (s := 2) (e := 50) 5 r32.length (by kernel_rfl) hg82 (by kernel_rfl) (by kernel_rfl)) (QJ.o { val := ag [iv o83.1, .bool o83.2] } (q_nAa Try.prog (H8_8 p1 p2 p3 r1 r32 r63) 50 5 (0 + (Int.toNat 0) * 2) r32 e50 2 50 (Int.toNat 0) (0, false) h84) (QJ.o { val := ag [iv r85.1, .bool r85.2], new := [] } (qOf_call (g := 43) (args := [ag [iv o83.1, .bool o83.2]]) (by kernel_rfl) (lookC_skip (fun hg => absurd (show (42 : Nat) = 43 from hg) (by decide)) (lookC_skip (fun hg => absurd (show (42 : Nat) = 43 from hg) (by decide)) lookC_hit))) (QJ.o { val := .bool false } (q_conv (e := ((o80.1 == r85.1) && ((o80.2 == r85.2) && true))) (b := false) (by kernel_rfl) hc87) ?_))))))))
       exact QJ.rn (qs (st 136 [(7, pt 3 0), (8, accV 5 r32.length), (9, accV 6 r63.length), (70, .bool false), (71, ag [iv r1.1, accV 4 r1.2.length]), (72, accV 5 r32.length), (73, .bool true), (74, .bool true), (75, ag [iv r1.1, accV 4 r1.2.length]), (76, accV 6 r63.length), (77, .bool true), (78, .bool true), (79, .bool true), (80, accV 5 r32.length), (81, accV 5 r32.length), (82, iv (r32.length : Int)), (83, iv (w64 ((r32.length : Int) - 1))), (84, .pointer (some ⟨5, 0 + (Int.toNat (w64 ((r32.length : Int) - 1))) * 2, none⟩)), (85, ag [iv o80.1, .bool o80.2]), (86, accV 5 r32.length), (87, .pointer (some ⟨5, 0 + (Int.toNat 0) * 2, none⟩)), (88, ag [iv o83.1, .bool o83.2]), (89, ag [iv r85.1, .bool r85.2]), (90, .bool false), (91, .bool false), (92, .bool false), (93, undef), (94, undef), (95, undef), (96, undef), (97, undef), (98, undef), (99, undef), (100, undef), (101, undef), (102, undef), (103, .bool false), (104, .bool false), (105, undef), (106, undef), (107, undef), (108, undef), (109, undef), (110, undef), (111, undef), (112, undef), (113, undef)]) (H8_8 p1 p2 p3 r1 r32 r63) [] []) 23 (QJ.dn ⟨rfl, SJ.la⟩)
     exact hK
    | false =>
     replace hm109 := of_neg hm109 rfl
     have hm109 := sj hm109
     subst hm109
     have hT : ∀ e ∈ ([⟨42, [ag [iv r1.1, accV 4 r1.2.length], accV 5 r32.length], (H8_8 p1 p2 p3 r1 r32 r63), .bool true, []⟩, ⟨42, [ag [iv r1.1, accV 4 r1.2.length], accV 6 r63.length], (H8_8 p1 p2 p3 r1 r32 r63), .bool false, []⟩] : List Entry), PureSim Try.prog e.g e.args e.h e.v e.new := by
      intro e he
      simp only [List.mem_cons, List.not_mem_nil, or_false] at he
      rcases he with rfl | rfl
      · exact (PureSim.ren (hc := (H8_23 r1 r32)) (fun i => List.getD [(4, 0), (5, 0)] i (0, 0)) (C42 _ _ _ _ h76) (.ac (.ac (.nil _))) (.cons (Rn.agg' (.fl (.cons (Rn.accA (i' := 4) (nl rfl) rfl) .nil))) (.cons (Rn.accA (i' := 5) (nl rfl) rfl) .nil)) (.flat (by kernel_rfl)) newflat_nil)
      exact (PureSim.ren (hc := (H8_24 r1 r63)) (fun i => List.getD [(4, 0), (6, 0)] i (0, 0)) (C42 _ _ _ _ h78) (.ac (.ac (.nil _))) (.cons (Rn.agg' (.fl (.cons (Rn.accA (i' := 4) (nl rfl) rfl) .nil))) (.cons (Rn.accA (i' := 6) (nl rfl) rfl) .nil)) (.flat (by kernel_rfl)) newflat_nil)
     refine TS.dp [⟨42, [ag [iv r1.1, accV 4 r1.2.length], accV 5 r32.length], (H8_8 p1 p2 p3 r1 r32 r63), .bool true, []⟩, ⟨42, [ag [iv r1.1, accV 4 r1.2.length], accV 6 r63.length], (H8_8 p1 p2 p3 r1 r32 r63), .bool false, []⟩] hT mixed 43 [7, 8, 9, 12] [0, 1, 2, 3, 4, 5, 6] (S8_22 r32 r63) (H8_8 p1 p2 p3 r1 r32 r63) ?_ ?_
     · refine QJ.rn (qs (S8_17 r32 r63 r1) (H8_8 p1 p2 p3 r1 r32 r63) [] []) 2 (QJ.o { val := .bool true, new := [] } (qOf_call (g := 42) (args := [ag [iv r1.1, accV 4 r1.2.length], accV 5 r32.length]) (by kernel_rfl) lookC_hit) (QJ.rn (qs (S8_10 r32 r63 r1) (H8_8 p1 p2 p3 r1 r32 r63) [] []) 3 ?_))
       exact QJ.o { val := .bool false, new := [] } (qOf_call (g := 42) (args := [ag [iv r1.1, accV 4 r1.2.length], accV 6 r63.length]) (by kernel_rfl) (lookC_skip (by intro _ ha hh; first | (exact absurd (congrArg List.length hh) (Nat.ne_of_beq_eq_false rfl)) | (have hr := sj (h76.symm.trans (Eq.trans (congr (congr (congrArg F42 (Eq.refl r1.1)) (Eq.refl r1.2)) (acc_ne (by decide) (show accV 5 r32.length = accV 6 r63.length from congrArg (argV 1) ha))) h78)); first | (subst hr; rfl) | (cases hr; done) | (cases hr; rfl))) lookC_hit)) (QJ.rn (qs (st 136 [(7, pt 3 0), (8, accV 5 r32.length), (9, accV 6 r63.length), (70, .bool false), (71, ag [iv r1.1, accV 4 r1.2.length]), (72, accV 5 r32.length), (73, .bool true), (74, .bool true), (75, ag [iv r1.1, accV 4 r1.2.length]), (76, accV 6 r63.length), (77, .bool false), (78, .bool false), (79, .bool false), (80, undef), (81, undef), (82, undef), (83, undef), (84, undef), (85, undef), (86, undef), (87, undef), (88, undef), (89, undef), (90, undef), (91, .bool false), (92, .bool false), (93, undef), (94, undef), (95, undef), (96, undef), (97, undef), (98, undef), (99, undef), (100, undef), (101, undef), (102, undef), (103, .bool false), (104, .bool false), (105, undef), (106, undef), (107, undef), (108, undef), (109, undef), (110, undef), (111, undef), (112, undef), (113, undef)]) (H8_8 p1 p2 p3 r1 r32 r63) [] []) 36 (QJ.dn ⟨rfl, SJ.la⟩))
     exact hK
   | false =>
    replace hm109 := of_neg hm109 rfl
    have hm109 := sj hm109
    subst hm109
    have hT : ∀ e ∈ ([⟨42, [ag [iv r1.1, accV 4 r1.2.length], accV 5 r32.length], (H8_8 p1 p2 p3 r1 r32 r63), .bool false, []⟩] : List Entry), PureSim Try.prog e.g e.args e.h e.v e.new := by
     intro e he
     simp only [List.mem_cons, List.not_mem_nil, or_false] at he
     rcases he with rfl
     exact (PureSim.ren (hc := (H8_23 r1 r32)) (fun i => List.getD [(4, 0), (5, 0)] i (0, 0)) (C42 _ _ _ _ h76) (.ac (.ac (.nil _))) (.cons (Rn.agg' (.fl (.cons (Rn.accA (i' := 4) (nl rfl) rfl) .nil))) (.cons (Rn.accA (i' := 5) (nl rfl) rfl) .nil)) (.flat (by kernel_rfl)) newflat_nil)
    refine TS.dp [⟨42, [ag [iv r1.1, accV 4 r1.2.length], accV 5 r32.length], (H8_8 p1 p2 p3 r1 r32 r63), .bool false, []⟩] hT mixed 43 [7, 8, 9, 12] [0, 1, 2, 3, 4, 5, 6] (S8_22 r32 r63) (H8_8 p1 p2 p3 r1 r32 r63) ?_ ?_
    · exact QJ.rn (qs (S8_17 r32 r63 r1) (H8_8 p1 p2 p3 r1 r32 r63) [] []) 2 (QJ.o { val := .bool false, new := [] } (qOf_call (g := 42) (args := [ag [iv r1.1, accV 4 r1.2.length], accV 5 r32.length]) (by kernel_rfl) lookC_hit) (QJ.rn (qs (st 136 [(7, pt 3 0), (8, accV 5 r32.length), (9, accV 6 r63.length), (70, .bool false), (71, ag [iv r1.1, accV 4 r1.2.length]), (72, accV 5 r32.length), (73, .bool false), (74, .bool false), (75, undef), (76, undef), (77, undef), (78, .bool false), (79, .bool false), (80, undef), (81, undef), (82, undef), (83, undef), (84, undef), (85, undef), (86, undef), (87, undef), (88, undef), (89, undef), (90, undef), (91, .bool false), (92, .bool false), (93, undef), (94, undef), (95, undef), (96, undef), (97, undef), (98, undef), (99, undef), (100, undef), (101, undef), (102, undef), (103, .bool false), (104, .bool false), (105, undef), (106, undef), (107, undef), (108, undef), (109, undef), (110, undef), (111, undef), (112, undef), (113, undef)]) (H8_8 p1 p2 p3 r1 r32 r63) [] []) 40 (QJ.dn ⟨rfl, SJ.la⟩)))
    exact hK
 rcases Bool.eq_false_or_eq_true (!((r65 == 0) == r67)) with hc69 | hc69
 · replace hm110 := of_pos hm110 hc69
   have hm110 := sj hm110
   subst hm110
   have hT : ∀ e ∈ ([⟨30, [ag [iv r1.1, accV 4 r1.2.length], accV 5 r32.length], (H8_8 p1 p2 p3 r1 r32 r63), iv r65, []⟩, ⟨42, [ag [iv r1.1, accV 4 r1.2.length], accV 5 r32.length], (H8_8 p1 p2 p3 r1 r32 r63), .bool r67, []⟩] : List Entry), PureSim Try.prog e.g e.args e.h e.v e.new := by
    intro e he
    simp only [List.mem_cons, List.not_mem_nil, or_false] at he
    rcases he with rfl | rfl
    · exact (PureSim.ren (hc := (H8_23 r1 r32)) (fun i => List.getD [(4, 0), (5, 0)] i (0, 0)) (C30 _ _ _ _ h66) (.ac (.ac (.nil _))) (.cons (Rn.agg' (.fl (.cons (Rn.accA (i' := 4) (nl rfl) rfl) .nil))) (.cons (Rn.accA (i' := 5) (nl rfl) rfl) .nil)) (.flat (by kernel_rfl)) newflat_nil)
    exact (PureSim.ren (hc := (H8_23 r1 r32)) (fun i => List.getD [(4, 0), (5, 0)] i (0, 0)) (C42 _ _ _ _ h68) (.ac (.ac (.nil _))) (.cons (Rn.agg' (.fl (.cons (Rn.accA (i' := 4) (nl rfl) rfl) .nil))) (.cons (Rn.accA (i' := 5) (nl rfl) rfl) .nil)) (.flat (by kernel_rfl)) newflat_nil)
   refine TS.dp [⟨30, [ag [iv r1.1, accV 4 r1.2.length], accV 5 r32.length], (H8_8 p1 p2 p3 r1 r32 r63), iv r65, []⟩, ⟨42, [ag [iv r1.1, accV 4 r1.2.length], accV 5 r32.length], (H8_8 p1 p2 p3 r1 r32 r63), .bool r67, []⟩] hT mixed 16 [7, 8, 9, 70] [0, 1, 2, 3, 4, 5, 6] (st 136 [(7, pt 3 0), (8, accV 5 r32.length), (9, accV 6 r63.length), (70, .bool true)]) (H8_8 p1 p2 p3 r1 r32 r63) ?_ ?_
   · exact QJ.rn (qs (st 136 [(7, pt 3 0), (8, accV 5 r32.length), (9, accV 6 r63.length), (53, ag [iv r1.1, accV 4 r1.2.length]), (54, accV 5 r32.length)]) (H8_8 p1 p2 p3 r1 r32 r63) [] []) 2 (QJ.o { val := iv r65, new := [] } (qOf_call (g := 30) (args := [ag [iv r1.1, accV 4 r1.2.length], accV 5 r32.length]) (by kernel_rfl) lookC_hit) (QJ.rn (qs (S8_12 r32 r63 r1 r65) (H8_8 p1 p2 p3 r1 r32 r63) [] []) 3 (QJ.o { val := .bool r67, new := [] } (qOf_call (g := 42) (args := [ag [iv r1.1, accV 4 r1.2.length], accV 5 r32.length]) (by kernel_rfl) (lookC_skip (fun hg => absurd (show (30 : Nat) = 42 from hg) (by decide)) lookC_hit)) (QJ.o { val := .bool true } (q_conv (e := !((r65 == 0) == r67)) (b := true) (by kernel_rfl) hc69) (QJ.rn (qs (st 136 [(7, pt 3 0), (8, accV 5 r32.length), (9, accV 6 r63.length), (53, ag [iv r1.1, accV 4 r1.2.length]), (54, accV 5 r32.length), (55, iv r65), (56, .bool (r65 == 0)), (57, ag [iv r1.1, accV 4 r1.2.length]), (58, accV 5 r32.length), (59, .bool r67), (60, .bool true), (61, .bool true), (62, undef), (63, undef), (64, undef), (65, undef), (66, undef), (67, undef), (68, undef)]) (H8_8 p1 p2 p3 r1 r32 r63) [] []) 8 (QJ.dn ⟨rfl, SJ.la⟩))))))
   exact hK
 replace hm110 := of_neg hm110 hc69
 have hX := of_do hm110
 clear hm110
 obtain ⟨r70, h71, hm110⟩ := hX
 have hX := of_do hm110
 clear hm110
 obtain ⟨r72, h73, hm110⟩ := hX
 have hm110 := sj hm110
 subst hm110
 have hT : ∀ e ∈ ([⟨30, [ag [iv r1.1, accV 4 r1.2.length], accV 5 r32.length], (H8_8 p1 p2 p3 r1 r32 r63), iv r65, []⟩, ⟨42, [ag [iv r1.1, accV 4 r1.2.length], accV 5 r32.length], (H8_8 p1 p2 p3 r1 r32 r63), .bool r67, []⟩, ⟨30, [ag [iv r1.1, accV 4 r1.2.length], accV 6 r63.length], (H8_8 p1 p2 p3 r1 r32 r63), iv r70, []⟩, ⟨42, [ag [iv r1.1, accV 4 r1.2.length], accV 6 r63.length], (H8_8 p1 p2 p3 r1 r32 r63), .bool r72, []⟩] : List Entry), PureSim Try.prog e.g e.args e.h e.v e.new := by
  intro e he
  simp only [List.mem_cons, List.not_mem_nil, or_false] at he
  rcases he with rfl | rfl | rfl | rfl
  · exact (PureSim.ren (hc := (H8_23 r1 r32)) (fun i => List.getD [(4, 0), (5, 0)] i (0, 0)) (C30 _ _ _ _ h66) (.ac (.ac (.nil _))) (.cons (Rn.agg' (.fl (.cons (Rn.accA (i' := 4) (nl rfl) rfl) .nil))) (.cons (Rn.accA (i' := 5) (nl rfl) rfl) .nil)) (.flat (by kernel_rfl)) newflat_nil)
  · exact (PureSim.ren (hc := (H8_23 r1 r32)) (fun i => List.getD [(4, 0), (5, 0)] i (0, 0)) (C42 _ _ _ _ h68) (.ac (.ac (.nil _))) (.cons (Rn.agg' (.fl (.cons (Rn.accA (i' := 4) (nl rfl) rfl) .nil))) (.cons (Rn.accA (i' := 5) (nl rfl) rfl) .nil)) (.flat (by kernel_rfl)) newflat_nil)
  · exact (PureSim.ren (hc := (H8_24 r1 r63)) (fun i => List.getD [(4, 0), (6, 0)] i (0, 0)) (C30 _ _ _ _ h71) (.ac (.ac (.nil _))) (.cons (Rn.agg' (.fl (.cons (Rn.accA (i' := 4) (nl rfl) rfl) .nil))) (.cons (Rn.accA (i' := 6) (nl rfl) rfl) .nil)) (.flat (by kernel_rfl)) newflat_nil)
  exact (PureSim.ren (hc := (H8_24 r1 r63)) (fun i => List.getD [(4, 0), (6, 0)] i (0, 0)) (C42 _ _ _ _ h73) (.ac (.ac (.nil _))) (.cons (Rn.agg' (.fl (.cons (Rn.accA (i' := 4) (nl rfl) rfl) .nil))) (.cons (Rn.accA (i' := 6) (nl rfl) rfl) .nil)) (.flat (by kernel_rfl)) newflat_nil)
 refine TS.dp [⟨30, [ag [iv r1.1, accV 4 r1.2.length], accV 5 r32.length], (H8_8 p1 p2 p3 r1 r32 r63), iv r65, []⟩, ⟨42, [ag [iv r1.1, accV 4 r1.2.length], accV 5 r32.length], (H8_8 p1 p2 p3 r1 r32 r63), .bool r67, []⟩, ⟨30, [ag [iv r1.1, accV 4 r1.2.length], accV 6 r63.length], (H8_8 p1 p2 p3 r1 r32 r63), iv r70, []⟩, ⟨42, [ag [iv r1.1, accV 4 r1.2.length], accV 6 r63.length], (H8_8 p1 p2 p3 r1 r32 r63), .bool r72, []⟩] hT mixed 16 [7, 8, 9, 70] [0, 1, 2, 3, 4, 5, 6] (st 136 [(7, pt 3 0), (8, accV 5 r32.length), (9, accV 6 r63.length), (70, .bool (!((r70 == 0) == r72)))]) (H8_8 p1 p2 p3 r1 r32 r63) ?_ ?_
 · refine QJ.rn (qs (st 136 [(7, pt 3 0), (8, accV 5 r32.length), (9, accV 6 r63.length), (53, ag [iv r1.1, accV 4 r1.2.length]), (54, accV 5 r32.length)]) (H8_8 p1 p2 p3 r1 r32 r63) [] []) 2 (QJ.o { val := iv r65, new := [] } (qOf_call (g := 30) (args := [ag [iv r1.1, accV 4 r1.2.length], accV 5 r32.length]) (by kernel_rfl) lookC_hit) (QJ.rn (qs (S8_12 r32 r63 r1 r65) (H8_8 p1 p2 p3 r1 r32 r63) [] []) 3 (QJ.o { val := .bool r67, new := [] } (qOf_call (g := 42) (args := [ag [iv r1.1, accV 4 r1.2.length], accV 5 r32.length]) (by kernel_rfl) (lookC_skip (fun hg => absurd (show (30 : Nat) = 42 from hg) (by decide)) lookC_hit)) (QJ.o { val := .bool false } (q_conv (e := !((r65 == 0) == r67)) (b := false) (by kernel_rfl) hc69) (QJ.rn (qs (st 136 [(7, pt 3 0), (8, accV 5 r32.length), (9, accV 6 r63.length), (53, ag [iv r1.1, accV 4 r1.2.length]), (54, accV 5 r32.length), (55, iv r65), (56, .bool (r65 == 0)), (57, ag [iv r1.1, accV 4 r1.2.length]), (58, accV 5 r32.length), (59, .bool r67), (60, .bool false), (61, .bool false), (62, ag [iv r1.1, accV 4 r1.2.length]), (63, accV 6 r63.length)]) (H8_8 p1 p2 p3 r1 r32 r63) [] []) 3 ?_)))))
   refine QJ.o { val := iv r70, new := [] } (qOf_call (g := 30) (args := [ag [iv r1.1, accV 4 r1.2.length], accV 6 r63.length]) (by kernel_rfl) (lookC_skip (by intro _ ha hh; first | (exact absurd (congrArg List.length hh) (Nat.ne_of_beq_eq_false rfl)) | (have hr := sj (h66.symm.trans (Eq.trans (congr (congr (congrArg F30 (Eq.refl r1.1)) (Eq.refl r1.2)) (acc_ne (by decide) (show accV 5 r32.length = accV 6 r63.length from congrArg (argV 1) ha))) h71)); first | (subst hr; rfl) | (cases hr; done) | (cases hr; rfl))) (lookC_skip (fun hg => absurd (show (42 : Nat) = 30 from hg) (by decide)) lookC_hit))) (QJ.rn (qs (st 136 [(7, pt 3 0), (8, accV 5 r32.length), (9, accV 6 r63.length), (53, ag [iv r1.1, accV 4 r1.2.length]), (54, accV 5 r32.length), (55, iv r65), (56, .bool (r65 == 0)), (57, ag [iv r1.1, accV 4 r1.2.length]), (58, accV 5 r32.length), (59, .bool r67), (60, .bool false), (61, .bool false), (62, ag [iv r1.1, accV 4 r1.2.length]), (63, accV 6 r63.length), (64, iv r70), (65, .bool (r70 == 0)), (66, ag [iv r1.1, accV 4 r1.2.length]), (67, accV 6 r63.length)]) (H8_8 p1 p2 p3 r1 r32 r63) [] []) 3 ?_)
   exact QJ.o { val := .bool r72, new := [] } (qOf_call (g := 42) (args := [ag [iv r1.1, accV 4 r1.2.length], accV 6 r63.length]) (by kernel_rfl) (lookC_skip (fun hg => absurd (show (30 : Nat) = 42 from hg) (by decide)) (lookC_skip (by intro _ ha hh; first | (exact absurd (congrArg List.length hh) (Nat.ne_of_beq_eq_false rfl)) | (have hr := sj (h68.symm.trans (Eq.trans (congr (congr (congrArg F42 (Eq.refl r1.1)) (Eq.refl r1.2)) (acc_ne (by decide) (show accV 5 r32.length = accV 6 r63.length from congrArg (argV 1) ha))) h73)); first | (subst hr; rfl) | (cases hr; done) | (cases hr; rfl))) (lookC_skip (fun hg => absurd (show (30 : Nat) = 42 from hg) (by decide)) lookC_hit)))) (QJ.dn ⟨rfl, SJ.la⟩)
 exact hK
theorem C8 (p0 : Int) (p1 : List I2) (p2 p3 : List Int) (r : Bool) (hF : F8 p0 p1 p2 p3 = some r) : PureSim Try.prog 8 [ag [.int .u8 p0, sv 0 p1.length ANY], sv 1 p2.length ANY, sv 2 p3.length ANY] [ab 84 e84 p1, ab 5 e5 p2, ab 5 e5 p3] (V8 3 r) (N8 3 r) :=
 PureSim.of_Fin Try.func8 (c := c8) (by kernel_rfl) (by kernel_rfl) 3 rfl [0, 1, 2] [0, 1, 2] (by kernel_rfl) (B8 p0 p1 p2 p3 r hF)
end
end Go.Proofs.Ytiaippkjgmccoaa
