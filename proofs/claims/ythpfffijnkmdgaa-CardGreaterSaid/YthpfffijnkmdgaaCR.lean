/- What functions of the program compute, and that they do. -/
import Derived.Test.YthpfffijnkmdgaaCE
set_option linter.unusedVariables false
set_option linter.unusedSimpArgs false
set_option maxRecDepth 100000
set_option maxHeartbeats 4000000
namespace Go.Proofs.Ythpfffijnkmdgaa
open Go Go.Cl
noncomputable section
def e81 (x : (Int × Int)) : List Value := [.int .u16 x.1, .int .u16 x.2]
noncomputable def c38 : Code := Try.f38.code
def H38_0 (p0 : (List (Int × Int))) (p1 : Int) (v11 : (List (Int × Int))) : List Blk := [ab 81 e81 p0, cl 72 [sv 0 p0.length ANY, .int .u8 p1], ab 55 e55 v11]
def F38l0 (p0 : (List (Int × Int))) (p1 : Int) (v11 : (List (Int × Int))) (v10 : Int) : Option (List (Int × Int)) :=
 (
  if decide (v10 < (p0.length : Int)) then
   some (decide (v10 < 5))
  else
   some (false)
 : Option Bool) >>= fun m24 =>
 if m24 then
  if (0 : Int) ≤ v10 ∧ v10 < (p0.length : Int) then
   some (List.getD p0 (Int.toNat v10) (0, 0)) >>= fun o26 =>
   if w64 ((w64 (2 * (w64 (20 + (w64 (3 * (w64 p1))))))) + 1) = 0 then none else
   some (w64 ((Int.tmod (w64 o26.2) (w64 ((w64 (2 * (w64 (20 + (w64 (3 * (w64 p1))))))) + 1))) - (w64 (20 + (w64 (3 * (w64 p1))))))) >>= fun o29 =>
   if List.length v11 ≤ 1000000000 then
    F38l0 p0 p1 (v11 ++ [(w64 ((w64 (720 * v10)) + (Int.tmod (w64 o26.1) 720)), o29)]) (w64 (v10 + 1))
   else none
  else none
 else
  some v11
 partial_fixpoint
def F38 (p0 : (List (Int × Int))) (p1 : Int) : Option (List (Int × Int)) :=
 F38l0 p0 p1 ([]) 0 >>= fun r33 =>
 (
  if (r33.length : Int) == 0 then
   if List.length r33 ≤ 1000000000 then
    some (r33 ++ [(7, w64 p1)])
   else none
  else
   some r33
 : Option (List (Int × Int))) >>= fun m38 =>
 some m38
def V38 (b : Nat) (r : (List (Int × Int))) : Value := accV (b + 0) r.length
def N38 (b : Nat) (r : (List (Int × Int))) : List Blk := [ab 55 e55 r]
def P38l0 (p0 : (List (Int × Int))) (p1 : Int) (r : (List (Int × Int))) : Post := fun e a h => e = .exit 0 ∧ Wk Try.prog 1 1 a h (st 63 [(1, pt 1 0), (3, accV 2 r.length)]) [ab 81 e81 p0, cl 72 [sv 0 p0.length ANY, .int .u8 p1], ab 55 e55 r]
theorem L38l0 (p0 : (List (Int × Int))) (p1 : Int) (v11 : (List (Int × Int))) (v10 : Int) (r : (List (Int × Int))) (hF : F38l0 p0 p1 v11 v10 = some r) : TL Try.prog 1 1 c38.s2.s2.s2.s1.s2.bd.bd (st 63 [(1, pt 1 0), (3, accV 2 v11.length), (4, iv (w64 (20 + (w64 (3 * (w64 p1)))))), (5, iv v10)]) (H38_0 p0 p1 v11) (P38l0 p0 p1 r) := by
 refine F38l0.partial_correctness p0 p1 (motive := fun v11 v10 r => TL Try.prog 1 1 c38.s2.s2.s2.s1.s2.bd.bd (st 63 [(1, pt 1 0), (3, accV 2 v11.length), (4, iv (w64 (20 + (w64 (3 * (w64 p1)))))), (5, iv v10)]) (H38_0 p0 p1 v11) (P38l0 p0 p1 r)) ?_ v11 v10 r hF
 clear hF r v11 v10
 intro again ih v11 v10 r hF
 refine TL.round (TS.sq (TS.sq ?_))
 have hX := of_do hF
 clear hF
 obtain ⟨m24, hm32, hF⟩ := hX
 have hK : NX Try.prog 1 1 [.sq c38.s2.s2.s2.s1.s2.bd.bd.s1.s2, .sq c38.s2.s2.s2.s1.s2.bd.bd.s2] (Rd Try.prog 1 1 c38.s2.s2.s2.s1.s2.bd.bd (P38l0 p0 p1 r)) .normal (st 63 [(1, pt 1 0), (3, accV 2 v11.length), (4, iv (w64 (20 + (w64 (3 * (w64 p1)))))), (5, iv v10), (20, .bool m24)]) (H38_0 p0 p1 v11) := by
  refine NX.sq ?_
  cases m24 with
  | true =>
   replace hF := of_pos hF rfl
   refine TS.cdT (.tmp 20) (TS.sk (NX.sq (TS.sq (TS.bk 1 (TS.sq ?_)))))
   have hX := of_guard hF
   clear hF
   obtain ⟨hg25, hF⟩ := hX
   have hX := of_do hF
   clear hF
   obtain ⟨o26, h27, hF⟩ := hX
   replace h27 := Option.some.inj h27
   have hX := of_guardn hF
   clear hF
   obtain ⟨hg28, hF⟩ := hX
   have hX := of_do hF
   clear hF
   obtain ⟨o29, h30, hF⟩ := hX
   replace h30 := Option.some.inj h30
   refine TS.dp [] (fun e he => by cases he) mixed 26 [1, 3, 4, 5, 6] [0, 1, 2, 3] (st 63 [(1, pt 1 0), (3, accV 2 v11.length), (4, iv (w64 (20 + (w64 (3 * (w64 p1)))))), (5, iv v10), (6, pt 3 0)]) [ab 81 e81 p0, cl 72 [sv 0 p0.length ANY, .int .u8 p1], ab 55 e55 v11, cl 55 [iv (w64 ((w64 (720 * v10)) + (Int.tmod (w64 o26.1) 720))), iv o29]] ?_ ?_
   · refine QJ.rn (qs (st 63 [(1, pt 1 0), (3, accV 2 v11.length), (4, iv (w64 (20 + (w64 (3 * (w64 p1)))))), (5, iv v10), (20, .bool true), (23, iv v10), (24, iv (w64 (720 * v10))), (25, pt 1 0), (26, sv 0 p0.length ANY), (27, iv v10)]) (H38_0 p0 p1 v11) [] []) 5 (QJ.o { val := .pointer (some ⟨0, 0 + (Int.toNat v10) * 2, none⟩) } (q_ixS 0 0 ((Int.toNat v10) * 2) (by kernel_rfl) hg25) (QJ.rn (qs (st 63 [(1, pt 1 0), (3, accV 2 v11.length), (4, iv (w64 (20 + (w64 (3 * (w64 p1)))))), (5, iv v10), (20, .bool true), (23, iv v10), (24, iv (w64 (720 * v10))), (25, pt 1 0), (26, sv 0 p0.length ANY), (27, iv v10), (28, .pointer (some ⟨0, 0 + (Int.toNat v10) * 2, none⟩)), (29, .pointer (some ⟨0, 0 + (Int.toNat v10) * 2, none⟩))]) (H38_0 p0 p1 v11) [] []) 1 (QJ.o { val := .int .u16 o26.1 } (q_n1a Try.prog (H38_0 p0 p1 v11) 73 0 (0 + (Int.toNat v10) * 2) p0 e81 2 81 (Int.toNat v10) 0 (0, 0) h27) (QJ.rn (qs (st 63 [(1, pt 1 0), (3, accV 2 v11.length), (4, iv (w64 (20 + (w64 (3 * (w64 p1)))))), (5, iv v10), (20, .bool true), (23, iv v10), (24, iv (w64 (720 * v10))), (25, pt 1 0), (26, sv 0 p0.length ANY), (27, iv v10), (28, .pointer (some ⟨0, 0 + (Int.toNat v10) * 2, none⟩)), (29, .pointer (some ⟨0, 0 + (Int.toNat v10) * 2, none⟩)), (30, .int .u16 o26.1), (31, iv (w64 o26.1)), (32, iv (Int.tmod (w64 o26.1) 720)), (33, iv (w64 ((w64 (720 * v10)) + (Int.tmod (w64 o26.1) 720)))), (34, pt 1 0), (35, sv 0 p0.length ANY), (36, iv v10)]) (H38_0 p0 p1 v11) [] []) 6 (QJ.o { val := .pointer (some ⟨0, 0 + (Int.toNat v10) * 2, none⟩) } (q_ixS 0 0 ((Int.toNat v10) * 2) (by kernel_rfl) hg25) (QJ.rn (qs (st 63 [(1, pt 1 0), (3, accV 2 v11.length), (4, iv (w64 (20 + (w64 (3 * (w64 p1)))))), (5, iv v10), (20, .bool true), (23, iv v10), (24, iv (w64 (720 * v10))), (25, pt 1 0), (26, sv 0 p0.length ANY), (27, iv v10), (28, .pointer (some ⟨0, 0 + (Int.toNat v10) * 2, none⟩)), (29, .pointer (some ⟨0, 0 + (Int.toNat v10) * 2, none⟩)), (30, .int .u16 o26.1), (31, iv (w64 o26.1)), (32, iv (Int.tmod (w64 o26.1) 720)), (33, iv (w64 ((w64 (720 * v10)) + (Int.tmod (w64 o26.1) 720)))), (34, pt 1 0), (35, sv 0 p0.length ANY), (36, iv v10), (37, .pointer (some ⟨0, 0 + (Int.toNat v10) * 2, none⟩)), (38, .pointer (some ⟨0, 0 + (Int.toNat v10) * 2 + 1, none⟩))]) (H38_0 p0 p1 v11) [] []) 1 (QJ.o { val := .int .u16 o26.2 } (q_n1a Try.prog (H38_0 p0 p1 v11) 73 0 (0 + (Int.toNat v10) * 2 + 1) p0 e81 2 81 (Int.toNat v10) 1 (0, 0) h27) (QJ.rn (qs (st 63 [(1, pt 1 0), (3, accV 2 v11.length), (4, iv (w64 (20 + (w64 (3 * (w64 p1)))))), (5, iv v10), (20, .bool true), (23, iv v10), (24, iv (w64 (720 * v10))), (25, pt 1 0), (26, sv 0 p0.length ANY), (27, iv v10), (28, .pointer (some ⟨0, 0 + (Int.toNat v10) * 2, none⟩)), (29, .pointer (some ⟨0, 0 + (Int.toNat v10) * 2, none⟩)), (30, .int .u16 o26.1), (31, iv (w64 o26.1)), (32, iv (Int.tmod (w64 o26.1) 720)), (33, iv (w64 ((w64 (720 * v10)) + (Int.tmod (w64 o26.1) 720)))), (34, pt 1 0), (35, sv 0 p0.length ANY), (36, iv v10), (37, .pointer (some ⟨0, 0 + (Int.toNat v10) * 2, none⟩)), (38, .pointer (some ⟨0, 0 + (Int.toNat v10) * 2 + 1, none⟩)), (39, .int .u16 o26.2), (40, iv (w64 o26.2)), (41, iv (w64 (20 + (w64 (3 * (w64 p1)))))), (42, iv (w64 (2 * (w64 (20 + (w64 (3 * (w64 p1)))))))), (43, iv (w64 ((w64 (2 * (w64 (20 + (w64 (3 * (w64 p1))))))) + 1)))]) (H38_0 p0 p1 v11) [] []) 4 ?_))))))))
     exact QJ.o { val := iv (Int.tmod (w64 o26.2) (w64 ((w64 (2 * (w64 (20 + (w64 (3 * (w64 p1))))))) + 1))) } (q_int (P := Try.prog) (op := .rem) (ty := 3) (ox := (.tmp 40)) (oy := (.tmp 43)) (k := .i64) (k' := .i64) (y := w64 o26.2) (z := w64 ((w64 (2 * (w64 (20 + (w64 (3 * (w64 p1))))))) + 1)) (by kernel_rfl) (rem_ok hg28)) (QJ.rn (qs (st 63 [(1, pt 1 0), (3, accV 2 v11.length), (4, iv (w64 (20 + (w64 (3 * (w64 p1)))))), (5, iv v10), (20, .bool true), (23, iv v10), (24, iv (w64 (720 * v10))), (25, pt 1 0), (26, sv 0 p0.length ANY), (27, iv v10), (28, .pointer (some ⟨0, 0 + (Int.toNat v10) * 2, none⟩)), (29, .pointer (some ⟨0, 0 + (Int.toNat v10) * 2, none⟩)), (30, .int .u16 o26.1), (31, iv (w64 o26.1)), (32, iv (Int.tmod (w64 o26.1) 720)), (33, iv (w64 ((w64 (720 * v10)) + (Int.tmod (w64 o26.1) 720)))), (34, pt 1 0), (35, sv 0 p0.length ANY), (36, iv v10), (37, .pointer (some ⟨0, 0 + (Int.toNat v10) * 2, none⟩)), (38, .pointer (some ⟨0, 0 + (Int.toNat v10) * 2 + 1, none⟩)), (39, .int .u16 o26.2), (40, iv (w64 o26.2)), (41, iv (w64 (20 + (w64 (3 * (w64 p1)))))), (42, iv (w64 (2 * (w64 (20 + (w64 (3 * (w64 p1)))))))), (43, iv (w64 ((w64 (2 * (w64 (20 + (w64 (3 * (w64 p1))))))) + 1))), (44, iv (Int.tmod (w64 o26.2) (w64 ((w64 (2 * (w64 (20 + (w64 (3 * (w64 p1))))))) + 1)))), (45, iv (w64 (20 + (w64 (3 * (w64 p1))))))]) (H38_0 p0 p1 v11) [] []) 1 (QJ.o { val := iv o29 } (q_convI (e := w64 ((Int.tmod (w64 o26.2) (w64 ((w64 (2 * (w64 (20 + (w64 (3 * (w64 p1))))))) + 1))) - (w64 (20 + (w64 (3 * (w64 p1))))))) (y := o29) (by kernel_rfl) h30) (QJ.rn (qs (st 63 [(1, pt 1 0), (3, accV 2 v11.length), (4, iv (w64 (20 + (w64 (3 * (w64 p1)))))), (5, iv v10), (6, pt 3 0), (20, .bool true), (23, iv v10), (24, iv (w64 (720 * v10))), (25, pt 1 0), (26, sv 0 p0.length ANY), (27, iv v10), (28, .pointer (some ⟨0, 0 + (Int.toNat v10) * 2, none⟩)), (29, .pointer (some ⟨0, 0 + (Int.toNat v10) * 2, none⟩)), (30, .int .u16 o26.1), (31, iv (w64 o26.1)), (32, iv (Int.tmod (w64 o26.1) 720)), (33, iv (w64 ((w64 (720 * v10)) + (Int.tmod (w64 o26.1) 720)))), (34, pt 1 0), (35, sv 0 p0.length ANY), (36, iv v10), (37, .pointer (some ⟨0, 0 + (Int.toNat v10) * 2, none⟩)), (38, .pointer (some ⟨0, 0 + (Int.toNat v10) * 2 + 1, none⟩)), (39, .int .u16 o26.2), (40, iv (w64 o26.2)), (41, iv (w64 (20 + (w64 (3 * (w64 p1)))))), (42, iv (w64 (2 * (w64 (20 + (w64 (3 * (w64 p1)))))))), (43, iv (w64 ((w64 (2 * (w64 (20 + (w64 (3 * (w64 p1))))))) + 1))), (44, iv (Int.tmod (w64 o26.2) (w64 ((w64 (2 * (w64 (20 + (w64 (3 * (w64 p1))))))) + 1)))), (45, iv (w64 (20 + (w64 (3 * (w64 p1)))))), (46, iv o29), (47, ag [iv (w64 ((w64 (720 * v10)) + (Int.tmod (w64 o26.1) 720))), iv o29])]) [ab 81 e81 p0, cl 72 [sv 0 p0.length ANY, .int .u8 p1], ab 55 e55 v11, cl 55 [iv 0, iv 0]] [(25, 3, 4)] []) 2 (QJ.dn ⟨rfl, SJ.la⟩))))
   have hX := of_guard hF
   clear hF
   obtain ⟨hg31, hF⟩ := hX
   refine TS.rg (TI.rn 3 [1, 4, 5, 48, 50] [0, 1, 2, 4] (st 63 [(1, pt 1 0), (4, iv (w64 (20 + (w64 (3 * (w64 p1)))))), (5, iv v10), (48, accV 2 v11.length), (50, sv 4 1 1)]) [ab 81 e81 p0, cl 72 [sv 0 p0.length ANY, .int .u8 p1], ab 55 e55 v11, .dead, cl 55 [iv (w64 ((w64 (720 * v10)) + (Int.tmod (w64 o26.1) 720))), iv o29]] (TI.acc (l := v11) (b := 2) (ts := #[23, 23]) (e := 55) (bytes := 16) (z := ag [iv 0, iv 0]) (y := sv 4 1 1) (ys := [(w64 ((w64 (720 * v10)) + (Int.tmod (w64 o26.1) 720)), o29)]) (xs := List.flatMap e55 ([(w64 ((w64 (720 * v10)) + (Int.tmod (w64 o26.1) 720)), o29)])) (m := 1) (s := 2) (enc := e55) (by kernel_rfl) (by kernel_rfl) (by decide) (by kernel_rfl) (by kernel_rfl) (by kernel_rfl) (by kernel_rfl) (by kernel_rfl) (by kernel_rfl) (by kernel_rfl) (by kernel_rfl) (fun _ => rfl) rfl rfl (by omega) [1, 4, 5, 51] [0, 1, 5] (a2 := (st 63 [(1, pt 1 0), (4, iv (w64 (20 + (w64 (3 * (w64 p1)))))), (5, iv v10), (51, sv 5 (List.length (v11 ++ [(w64 ((w64 (720 * v10)) + (Int.tmod (w64 o26.1) 720)), o29)])) UNK)])) (h2 := [ab 81 e81 p0, cl 72 [sv 0 p0.length ANY, .int .u8 p1], .dead, .dead, .dead, .cells 55 (List.flatMap e55 (v11 ++ [(w64 ((w64 (720 * v10)) + (Int.tmod (w64 o26.1) 720)), o29)]))]) (by kernel_rfl) (TI.ra 1 [1, 3, 4, 5] (st 63 [(1, pt 1 0), (3, sv 5 (List.length (v11 ++ [(w64 ((w64 (720 * v10)) + (Int.tmod (w64 o26.1) 720)), o29)])) UNK), (4, iv (w64 (20 + (w64 (3 * (w64 p1)))))), (5, iv v10)]) (TI.dn (NX.bk (NX.sq (TS.rg (TI.ra 3 [1, 3, 4, 5] (st 63 [(1, pt 1 0), (3, sv 5 (List.length (v11 ++ [(w64 ((w64 (720 * v10)) + (Int.tmod (w64 o26.1) 720)), o29)])) UNK), (4, iv (w64 (20 + (w64 (3 * (w64 p1)))))), (5, iv (w64 (v10 + 1)))]) ?_))))))))
   refine TI.dn ?_
   exact Rd.again (a2 := (st 63 [(1, pt 1 0), (3, accV 2 (List.length (v11 ++ [(w64 ((w64 (720 * v10)) + (Int.tmod (w64 o26.1) 720)), o29)]))), (4, iv (w64 (20 + (w64 (3 * (w64 p1)))))), (5, iv (w64 (v10 + 1)))])) (h2 := [ab 81 e81 p0, cl 72 [sv 0 p0.length ANY, .int .u8 p1], accB 55 (List.length (v11 ++ [(w64 ((w64 (720 * v10)) + (Int.tmod (w64 o26.1) 720)), o29)])) (List.flatMap e55 (v11 ++ [(w64 ((w64 (720 * v10)) + (Int.tmod (w64 o26.1) 720)), o29)]))]) (Wk.an [1, 5] (.ac (.lt (.sl (.fl .nil)) (.cons (At.accU (by kernel_rfl) rfl (fun _ => rfl)) (.nil _)))) [pt 1 0, sv 5 (List.length (v11 ++ [(w64 ((w64 (720 * v10)) + (Int.tmod (w64 o26.1) 720)), o29)])) UNK, iv (w64 (20 + (w64 (3 * (w64 p1))))), iv (w64 (v10 + 1))] (.pp (.cons (Rn.accU (Nat.le_of_ble_eq_true rfl) rfl (by simp)) (.fl (.fl .nil))))) (ih (v11 ++ [(w64 ((w64 (720 * v10)) + (Int.tmod (w64 o26.1) 720)), o29)]) (w64 (v10 + 1)) _ hF)
  | false =>
   replace hF := of_neg hF rfl
   refine TS.cdF (.tmp 20) (TS.ex 0 (NX.sqX ?_))
   have hF := Option.some.inj hF
   subst hF
   exact Rd.out (e := .exit 0) (by intro h; cases h) (And.intro rfl (Wk.an [1, 2] (.ac (.lt (.sl (.fl .nil)) (.ac (.nil _)))) [pt 1 0, accV 2 v11.length] (.pp (.cons (Rn.acc (Nat.le_of_ble_eq_true rfl) rfl) .nil))))
 rcases Bool.eq_false_or_eq_true (decide (v10 < (p0.length : Int))) with hc23 | hc23
 · replace hm32 := of_pos hm32 hc23
   have hm32 := Option.some.inj hm32
   subst hm32
   exact TS.rg (TI.ra 4 [1, 3, 4, 5, 12, 15] (st 63 [(1, pt 1 0), (3, accV 2 v11.length), (4, iv (w64 (20 + (w64 (3 * (w64 p1)))))), (5, iv v10), (12, iv v10), (15, iv (p0.length : Int))]) (TI.o { val := .bool true } (q_conv (e := decide (v10 < (p0.length : Int))) (b := true) (by kernel_rfl) hc23) [1, 3, 4, 5, 16] [0, 1, 2] (st 63 [(1, pt 1 0), (3, accV 2 v11.length), (4, iv (w64 (20 + (w64 (3 * (w64 p1)))))), (5, iv v10), (16, .bool true)]) (H38_0 p0 p1 v11) (TI.ra 4 [1, 3, 4, 5, 20] (st 63 [(1, pt 1 0), (3, accV 2 v11.length), (4, iv (w64 (20 + (w64 (3 * (w64 p1)))))), (5, iv v10), (20, .bool (decide (v10 < 5)))]) (TI.dn hK))))
 replace hm32 := of_neg hm32 hc23
 have hm32 := Option.some.inj hm32
 subst hm32
 exact TS.rg (TI.ra 4 [1, 3, 4, 5, 12, 15] (st 63 [(1, pt 1 0), (3, accV 2 v11.length), (4, iv (w64 (20 + (w64 (3 * (w64 p1)))))), (5, iv v10), (12, iv v10), (15, iv (p0.length : Int))]) (TI.o { val := .bool false } (q_conv (e := decide (v10 < (p0.length : Int))) (b := false) (by kernel_rfl) hc23) [1, 3, 4, 5, 16] [0, 1, 2] (st 63 [(1, pt 1 0), (3, accV 2 v11.length), (4, iv (w64 (20 + (w64 (3 * (w64 p1)))))), (5, iv v10), (16, .bool false)]) (H38_0 p0 p1 v11) (TI.ra 4 [1, 3, 4, 5, 20] (st 63 [(1, pt 1 0), (3, accV 2 v11.length), (4, iv (w64 (20 + (w64 (3 * (w64 p1)))))), (5, iv v10), (20, .bool false)]) (TI.dn hK))))
theorem B38 (p0 : (List (Int × Int))) (p1 : Int) (r : (List (Int × Int))) (hF : F38 p0 p1 = some r) : TS Try.prog 1 1 c38 (st 63 [(0, ag [sv 0 p0.length ANY, .int .u8 p1])]) [ab 81 e81 p0] (NX Try.prog 1 1 [] (FinP Try.prog Try.f38 1 (V38 1 r) (N38 1 r))) := by
 unfold F38 at hF
 refine TS.sq (TS.rg (TI.rn 2 [1] [0, 1] (st 63 [(1, pt 1 0)]) [ab 81 e81 p0, cl 72 [sv 0 p0.length ANY, .int .u8 p1]] (TI.dn (NX.sq (TS.sq (TS.rg (TI.ra 1 [1, 3] (st 63 [(1, pt 1 0), (3, .slice none 0 0)]) (TI.dn ?_))))))))
 refine NX.sq (TS.sq (TS.rg (TI.ra 6 [1, 3, 4] (st 63 [(1, pt 1 0), (3, .slice none 0 0), (4, iv (w64 (20 + (w64 (3 * (w64 p1))))))]) (TI.dn (NX.sq (TS.sq (TS.sq (TS.rg ?_))))))))
 refine TI.ra 1 [1, 3, 4, 5] (st 63 [(1, pt 1 0), (3, .slice none 0 0), (4, iv (w64 (20 + (w64 (3 * (w64 p1)))))), (5, iv 0)]) (TI.dn (NX.sq (TS.bk 0 ?_)))
 have hX := of_do hF
 clear hF
 obtain ⟨r33, h34, hF⟩ := hX
 refine TS.lp (TL.weak (a2 := (st 63 [(1, pt 1 0), (3, accV 2 (List.length ([]))), (4, iv (w64 (20 + (w64 (3 * (w64 p1)))))), (5, iv 0)])) (h2 := [ab 81 e81 p0, cl 72 [sv 0 p0.length ANY, .int .u8 p1], accB 55 (List.length ([])) (List.flatMap e55 ([]))]) (Wk.an [1, 2] (.ac (.lt (.sl (.fl .nil)) (.cons At.accN (.nil _)))) [pt 1 0, .slice none 0 0, iv (w64 (20 + (w64 (3 * (w64 p1))))), iv 0] (.pp (.cons (Rn.accN) (.fl (.fl .nil))))) (TL.post (L38l0 p0 p1 ([]) 0 r33 h34) ?_))
 rintro e a1 h1 hp
 obtain ⟨rfl, hw⟩ := hp
 refine ⟨(st 63 [(1, pt 1 0), (3, accV 2 r33.length)]), [ab 81 e81 p0, cl 72 [sv 0 p0.length ANY, .int .u8 p1], ab 55 e55 r33], (NX.bkX (NX.sq (TS.sq (TS.sq (TS.rg (TI.ra 3 [1, 3, 54] (st 63 [(1, pt 1 0), (3, accV 2 r33.length), (54, .bool ((r33.length : Int) == 0))]) (TI.dn (NX.sq ?_)))))))), hw⟩
 have hX := of_do hF
 clear hF
 obtain ⟨m38, hm39, hF⟩ := hX
 have hK : NX Try.prog 1 1 [.sq c38.s2.s2.s2.s2.s2] (FinP Try.prog Try.f38 1 (V38 1 r) (N38 1 r)) .normal (st 63 [(3, accV 1 m38.length)]) [ab 81 e81 p0, ab 55 e55 m38] := by
  refine NX.sq (TS.sq (TS.rg (TI.ra 2 [2] (st 63 [(2, accV 1 m38.length)]) (TI.dn (NX.sq (TS.rt ?_))))))
  have hF := Option.some.inj hF
  subst hF
  exact ⟨.inr rfl, rfl, accV 1 m38.length, by kernel_rfl, WkV.made (L := 1) (f := [1]) (by decide) (by decide) rfl (.ac (.nil _)) (Rn.acc (Nat.le_of_ble_eq_true rfl) rfl)⟩
 clear hF
 have hF := hm39
 clear hm39
 refine TS.start ?_
 refine TS.cd (.tmp 54) ((r33.length : Int) == 0) (fun hc40 => ?_) (fun hc40 => ?_)
 · replace hF := of_pos hF hc40
   have hX := of_guard hF
   clear hF
   obtain ⟨hg41, hF⟩ := hX
   refine TS.rg (TI.rn 6 [55, 60] [0, 2, 3] (st 63 [(55, accV 2 r33.length), (60, sv 3 1 1)]) [ab 81 e81 p0, .dead, ab 55 e55 r33, cl 55 [iv 7, iv (w64 p1)]] (TI.acc (l := r33) (b := 2) (ts := #[23, 23]) (e := 55) (bytes := 16) (z := ag [iv 0, iv 0]) (y := sv 3 1 1) (ys := [(7, w64 p1)]) (xs := List.flatMap e55 ([(7, w64 p1)])) (m := 1) (s := 2) (enc := e55) (by kernel_rfl) (by kernel_rfl) (by decide) (by kernel_rfl) (by kernel_rfl) (by kernel_rfl) (by kernel_rfl) (by kernel_rfl) (by kernel_rfl) (by kernel_rfl) (by kernel_rfl) (fun _ => rfl) rfl rfl (by omega) [61] [0, 4] (a2 := (st 63 [(61, sv 4 (List.length (r33 ++ [(7, w64 p1)])) UNK)])) (h2 := [ab 81 e81 p0, .dead, .dead, .dead, .cells 55 (List.flatMap e55 (r33 ++ [(7, w64 p1)]))]) (by kernel_rfl) (TI.ra 1 [3] (st 63 [(3, sv 4 (List.length (r33 ++ [(7, w64 p1)])) UNK)]) (TI.dn ?_))))
   have hF := Option.some.inj hF
   subst hF
   exact TS.weak (by exact (Wk.an [4] (.ac (.cons (At.accU (by kernel_rfl) rfl (fun _ => rfl)) (.nil _))) [sv 4 (List.length (r33 ++ [(7, w64 p1)])) UNK] (.cons (Rn.accU (Nat.le_of_ble_eq_true rfl) rfl (by simp)) .nil))) hK
 replace hF := of_neg hF hc40
 refine TS.sk ?_
 have hF := Option.some.inj hF
 subst hF
 exact TS.weak (by exact (Wk.an [2] (.ac (.ac (.nil _))) [accV 2 r33.length] (.cons (Rn.acc (Nat.le_of_ble_eq_true rfl) rfl) .nil))) hK
theorem C38 (p0 : (List (Int × Int))) (p1 : Int) (r : (List (Int × Int))) (hF : F38 p0 p1 = some r) : PureSim Try.prog 38 [ag [sv 0 p0.length ANY, .int .u8 p1]] [ab 81 e81 p0] (V38 1 r) (N38 1 r) :=
 PureSim.of_Fin Try.func38 (c := c38) (by kernel_rfl) (by kernel_rfl) 1 rfl [0] [0] (by kernel_rfl) (B38 p0 p1 r hF)
noncomputable def c40 : Code := Try.f40.code
def S40_0 (p2 : Int) (p1 : Int) : CAct := (st 27 [(1, iv p2), (2, pt 0 0), (8, .bool true), (10, iv p1)])
def F40 (p0 : Int) (p1 : Int) (p2 : Int) : Option Bool :=
 (
  if decide (p1 ≥ 1) then
   if decide (p1 ≤ 6000) then
    if decide (p0 ≥ 0) then
     some (decide (p0 < (w64 (p2 * p1))))
    else
     some (false)
   else
    some (false)
  else
   some (false)
 : Option Bool) >>= fun m4 =>
 some m4
def V40 (b : Nat) (r : Bool) : Value := .bool r
def N40 (b : Nat) (r : Bool) : List Blk := []
theorem B40 (p0 : Int) (p1 : Int) (p2 : Int) (r : Bool) (hF : F40 p0 p1 p2 = some r) : TS Try.prog 0 0 c40 (st 27 [(0, ag [iv p0, iv p1]), (1, iv p2)]) [] (NX Try.prog 0 0 [] (FinP Try.prog Try.f40 0 (V40 0 r) (N40 0 r))) := by
 unfold F40 at hF
 refine TS.sq (TS.rg (TI.rn 2 [1, 2] [0] (st 27 [(1, iv p2), (2, pt 0 0)]) [cl 29 [iv p0, iv p1]] (TI.dn (NX.sq (TS.sq ?_)))))
 have hX := of_do hF
 clear hF
 obtain ⟨m4, hm5, hF⟩ := hX
 have hK : NX Try.prog 0 0 [.sq c40.s2.s2] (FinP Try.prog Try.f40 0 (V40 0 r) (N40 0 r)) .normal (st 27 [(4, .bool m4)]) [.dead] := by
  refine NX.sq (TS.rt ?_)
  have hF := Option.some.inj hF
  subst hF
  exact ⟨.inr rfl, rfl, .bool m4, by kernel_rfl, WkV.flat0 (by kernel_rfl) (Nat.le_of_ble_eq_true rfl)⟩
 rcases Bool.eq_false_or_eq_true (decide (p1 ≥ 1)) with hc1 | hc1
 · replace hm5 := of_pos hm5 hc1
   rcases Bool.eq_false_or_eq_true (decide (p1 ≤ 6000)) with hc2 | hc2
   · replace hm5 := of_pos hm5 hc2
     rcases Bool.eq_false_or_eq_true (decide (p0 ≥ 0)) with hc3 | hc3
     · replace hm5 := of_pos hm5 hc3
       have hm5 := Option.some.inj hm5
       subst hm5
       refine TS.rg (TI.ra 2 [1, 2, 6] (st 27 [(1, iv p2), (2, pt 0 0), (6, iv p1)]) (TI.o { val := .bool true } (q_conv (e := decide (p1 ≥ 1)) (b := true) (by kernel_rfl) hc1) [1, 2, 7] [0] (st 27 [(1, iv p2), (2, pt 0 0), (7, .bool true)]) [cl 29 [iv p0, iv p1]] (TI.ra 3 [1, 2, 8, 10] (S40_0 p2 p1) (TI.o { val := .bool true } (q_conv (e := decide (p1 ≤ 6000)) (b := true) (by kernel_rfl) hc2) [1, 2, 8, 11] [0] (st 27 [(1, iv p2), (2, pt 0 0), (8, .bool true), (11, .bool true)]) [cl 29 [iv p0, iv p1]] (TI.ra 4 [1, 2, 13, 15] (st 27 [(1, iv p2), (2, pt 0 0), (13, .bool true), (15, iv p0)]) (TI.o { val := .bool true } (q_conv (e := decide (p0 ≥ 0)) (b := true) (by kernel_rfl) hc3) [1, 2, 13, 16] [0] (st 27 [(1, iv p2), (2, pt 0 0), (13, .bool true), (16, .bool true)]) [cl 29 [iv p0, iv p1]] (TI.rn 11 [4] [] (st 27 [(4, .bool (decide (p0 < (w64 (p2 * p1)))))]) [.dead] (TI.dn ?_))))))))
       exact hK
     replace hm5 := of_neg hm5 hc3
     have hm5 := Option.some.inj hm5
     subst hm5
     refine TS.rg (TI.ra 2 [1, 2, 6] (st 27 [(1, iv p2), (2, pt 0 0), (6, iv p1)]) (TI.o { val := .bool true } (q_conv (e := decide (p1 ≥ 1)) (b := true) (by kernel_rfl) hc1) [1, 2, 7] [0] (st 27 [(1, iv p2), (2, pt 0 0), (7, .bool true)]) [cl 29 [iv p0, iv p1]] (TI.ra 3 [1, 2, 8, 10] (S40_0 p2 p1) (TI.o { val := .bool true } (q_conv (e := decide (p1 ≤ 6000)) (b := true) (by kernel_rfl) hc2) [1, 2, 8, 11] [0] (st 27 [(1, iv p2), (2, pt 0 0), (8, .bool true), (11, .bool true)]) [cl 29 [iv p0, iv p1]] (TI.ra 4 [1, 2, 13, 15] (st 27 [(1, iv p2), (2, pt 0 0), (13, .bool true), (15, iv p0)]) (TI.o { val := .bool false } (q_conv (e := decide (p0 ≥ 0)) (b := false) (by kernel_rfl) hc3) [1, 2, 13, 16] [0] (st 27 [(1, iv p2), (2, pt 0 0), (13, .bool true), (16, .bool false)]) [cl 29 [iv p0, iv p1]] (TI.rn 11 [4] [] (st 27 [(4, .bool false)]) [.dead] (TI.dn ?_))))))))
     exact hK
   replace hm5 := of_neg hm5 hc2
   have hm5 := Option.some.inj hm5
   subst hm5
   exact TS.rg (TI.ra 2 [1, 2, 6] (st 27 [(1, iv p2), (2, pt 0 0), (6, iv p1)]) (TI.o { val := .bool true } (q_conv (e := decide (p1 ≥ 1)) (b := true) (by kernel_rfl) hc1) [1, 2, 7] [0] (st 27 [(1, iv p2), (2, pt 0 0), (7, .bool true)]) [cl 29 [iv p0, iv p1]] (TI.ra 3 [1, 2, 8, 10] (S40_0 p2 p1) (TI.o { val := .bool false } (q_conv (e := decide (p1 ≤ 6000)) (b := false) (by kernel_rfl) hc2) [1, 2, 8, 11] [0] (st 27 [(1, iv p2), (2, pt 0 0), (8, .bool true), (11, .bool false)]) [cl 29 [iv p0, iv p1]] (TI.rn 16 [4] [] (st 27 [(4, .bool false)]) [.dead] (TI.dn hK))))))
 replace hm5 := of_neg hm5 hc1
 have hm5 := Option.some.inj hm5
 subst hm5
 exact TS.rg (TI.ra 2 [1, 2, 6] (st 27 [(1, iv p2), (2, pt 0 0), (6, iv p1)]) (TI.o { val := .bool false } (q_conv (e := decide (p1 ≥ 1)) (b := false) (by kernel_rfl) hc1) [1, 2, 7] [0] (st 27 [(1, iv p2), (2, pt 0 0), (7, .bool false)]) [cl 29 [iv p0, iv p1]] (TI.rn 20 [4] [] (st 27 [(4, .bool false)]) [.dead] (TI.dn hK))))
theorem C40 (p0 : Int) (p1 : Int) (p2 : Int) (r : Bool) (hF : F40 p0 p1 p2 = some r) : PureSim Try.prog 40 [ag [iv p0, iv p1], iv p2] [] (V40 0 r) (N40 0 r) :=
 PureSim.of_Fin Try.func40 (c := c40) (by kernel_rfl) (by kernel_rfl) 0 rfl [0, 1] [] (by kernel_rfl) (B40 p0 p1 p2 r hF)
noncomputable def c44 : Code := Try.f44.code
def F44 (p0 : Int) (p1 : Int) : Option (Int × Int) :=
 some (p0, p1)
def V44 (b : Nat) (r : (Int × Int)) : Value := ag [iv r.1, iv r.2]
def N44 (b : Nat) (r : (Int × Int)) : List Blk := []
theorem B44 (p0 : Int) (p1 : Int) (r : (Int × Int)) (hF : F44 p0 p1 = some r) : TS Try.prog 0 0 c44 (st 8 [(0, iv p0), (1, iv p1)]) [] (NX Try.prog 0 0 [] (FinP Try.prog Try.f44 0 (V44 0 r) (N44 0 r))) := by
 unfold F44 at hF
 refine TS.sq (TS.rg (TI.rn 1 [0, 1, 4] [0] (st 8 [(0, iv p0), (1, iv p1), (4, pt 0 0)]) [cl 29 [iv 0, iv 0]] (TI.dn (NX.sq (TS.sq (TS.rg (TI.rn 4 [4] [0] (st 8 [(4, pt 0 0)]) [cl 29 [iv p0, iv p1]] (TI.dn ?_))))))))
 refine NX.sq (TS.rt ?_)
 have hF := Option.some.inj hF
 subst hF
 exact ⟨.inr rfl, rfl, ag [iv p0, iv p1], by kernel_rfl, WkV.flat0 (by kernel_rfl) (Nat.le_of_ble_eq_true rfl)⟩
theorem C44 (p0 : Int) (p1 : Int) (r : (Int × Int)) (hF : F44 p0 p1 = some r) : PureSim Try.prog 44 [iv p0, iv p1] [] (V44 0 r) (N44 0 r) :=
 PureSim.of_Fin Try.func44 (c := c44) (by kernel_rfl) (by kernel_rfl) 0 rfl [0, 1] [] (by kernel_rfl) (B44 p0 p1 r hF)
noncomputable def c42 : Code := Try.f42.code
def F42 (p0 : Int) (p1 : Int) (p2 : Int) : Option Bool :=
 if w64 (3600 * p1) = 0 then none else
 some ((Int.tmod (w64 (p0 - (w64 (p2 * p1)))) (w64 (3600 * p1))) == 0)
def V42 (b : Nat) (r : Bool) : Value := .bool r
def N42 (b : Nat) (r : Bool) : List Blk := []
theorem B42 (p0 : Int) (p1 : Int) (p2 : Int) (r : Bool) (hF : F42 p0 p1 p2 = some r) : TS Try.prog 0 0 c42 (st 17 [(0, ag [iv p0, iv p1]), (1, iv p2)]) [] (NX Try.prog 0 0 [] (FinP Try.prog Try.f42 0 (V42 0 r) (N42 0 r))) := by
 unfold F42 at hF
 refine TS.sq (TS.rg (TI.rn 2 [1, 2] [0] (st 17 [(1, iv p2), (2, pt 0 0)]) [cl 29 [iv p0, iv p1]] (TI.dn (NX.sq (TS.sq ?_)))))
 have hX := of_guardn hF
 clear hF
 obtain ⟨hg1, hF⟩ := hX
 refine TS.rg (TI.rn 10 [11, 14] [] (st 17 [(11, iv (w64 (p0 - (w64 (p2 * p1))))), (14, iv (w64 (3600 * p1)))]) [.dead] (TI.o { val := iv (Int.tmod (w64 (p0 - (w64 (p2 * p1)))) (w64 (3600 * p1))) } (q_int (P := Try.prog) (op := .rem) (ty := 3) (ox := (.tmp 11)) (oy := (.tmp 14)) (k := .i64) (k' := .i64) (y := w64 (p0 - (w64 (p2 * p1)))) (z := w64 (3600 * p1)) (by kernel_rfl) (rem_ok hg1)) [15] [] (st 17 [(15, iv (Int.tmod (w64 (p0 - (w64 (p2 * p1)))) (w64 (3600 * p1))))]) [.dead] (TI.ra 2 [4] (st 17 [(4, .bool ((Int.tmod (w64 (p0 - (w64 (p2 * p1)))) (w64 (3600 * p1))) == 0))]) (TI.dn (NX.sq (TS.rt ?_))))))
 have hF := Option.some.inj hF
 subst hF
 exact ⟨.inr rfl, rfl, .bool ((Int.tmod (w64 (p0 - (w64 (p2 * p1)))) (w64 (3600 * p1))) == 0), by kernel_rfl, WkV.flat0 (by kernel_rfl) (Nat.le_of_ble_eq_true rfl)⟩
theorem C42 (p0 : Int) (p1 : Int) (p2 : Int) (r : Bool) (hF : F42 p0 p1 p2 = some r) : PureSim Try.prog 42 [ag [iv p0, iv p1], iv p2] [] (V42 0 r) (N42 0 r) :=
 PureSim.of_Fin Try.func42 (c := c42) (by kernel_rfl) (by kernel_rfl) 0 rfl [0, 1] [] (by kernel_rfl) (B42 p0 p1 p2 r hF)
end
end Go.Proofs.Ythpfffijnkmdgaa
