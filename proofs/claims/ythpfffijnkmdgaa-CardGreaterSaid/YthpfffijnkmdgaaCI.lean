/- What functions of the program compute, and that they do. -/
import Derived.Test.YthpfffijnkmdgaaCS
set_option linter.unusedVariables false
set_option linter.unusedSimpArgs false
set_option maxRecDepth 100000
set_option maxHeartbeats 4000000
namespace Go.Proofs.Ythpfffijnkmdgaa
open Go Go.Cl
noncomputable section
noncomputable def c48 : Code := Try.f48.code
def S48_0 (p0 : (List (Int × Int))) (r21 : Int) (p1 : Int) (p2 : Int) : CAct := (st 34 [(0, sv 0 p0.length ANY), (3, pt 1 0), (4, ownV 6 (List.length (((List.take (Int.toNat r21) p0) ++ ([(p1, p2)])) ++ (List.drop (Int.toNat r21) p0)))), (5, iv r21), (22, sv 2 0 0), (23, sv 0 p0.length ANY), (24, iv r21), (25, sv 0 (List.length (List.take (Int.toNat r21) p0)) ANY), (26, ownV 3 (List.length (List.take (Int.toNat r21) p0))), (27, ag [iv p1, iv p2]), (28, sv 4 1 1), (29, ownV 5 (List.length ((List.take (Int.toNat r21) p0) ++ ([(p1, p2)])))), (30, sv 0 p0.length ANY), (31, iv r21), (32, .slice (some ⟨0, 0 + Int.toNat r21 * 2, none⟩) (List.length (List.drop (Int.toNat r21) p0)) ANY), (33, ownV 6 (List.length (((List.take (Int.toNat r21) p0) ++ ([(p1, p2)])) ++ (List.drop (Int.toNat r21) p0))))])
def S48_1 (p0 : (List (Int × Int))) (r21 : Int) (p1 : Int) (p2 : Int) : CAct := (st 34 [(0, sv 0 p0.length ANY), (3, pt 1 0), (5, iv r21), (22, sv 2 0 0), (23, sv 0 p0.length ANY), (24, iv r21), (25, sv 0 (List.length (List.take (Int.toNat r21) p0)) ANY), (26, ownV 3 (List.length (List.take (Int.toNat r21) p0))), (27, ag [iv p1, iv p2]), (28, sv 4 1 1), (29, ownV 5 (List.length ((List.take (Int.toNat r21) p0) ++ ([(p1, p2)])))), (30, sv 0 p0.length ANY), (31, iv r21), (32, .slice (some ⟨0, 0 + Int.toNat r21 * 2, none⟩) (List.length (List.drop (Int.toNat r21) p0)) ANY)])
def S48_2 (p0 : (List (Int × Int))) (r21 : Int) (p1 : Int) (p2 : Int) : CAct := (st 34 [(0, sv 0 p0.length ANY), (3, pt 1 0), (5, iv r21), (22, sv 2 0 0), (23, sv 0 p0.length ANY), (24, iv r21), (25, sv 0 (List.length (List.take (Int.toNat r21) p0)) ANY), (26, ownV 3 (List.length (List.take (Int.toNat r21) p0))), (27, ag [iv p1, iv p2]), (28, sv 4 1 1), (29, ownV 5 (List.length ((List.take (Int.toNat r21) p0) ++ ([(p1, p2)])))), (30, sv 0 p0.length ANY), (31, iv r21)])
def S48_3 (p0 : (List (Int × Int))) (r21 : Int) (p1 : Int) (p2 : Int) : CAct := (st 34 [(0, sv 0 p0.length ANY), (3, pt 1 0), (5, iv r21), (22, sv 2 0 0), (23, sv 0 p0.length ANY), (24, iv r21), (25, sv 0 (List.length (List.take (Int.toNat r21) p0)) ANY), (26, ownV 3 (List.length (List.take (Int.toNat r21) p0))), (27, ag [iv p1, iv p2]), (28, sv 4 1 1), (29, ownV 5 (List.length ((List.take (Int.toNat r21) p0) ++ ([(p1, p2)]))))])
def S48_4 (p0 : (List (Int × Int))) (r21 : Int) (p1 : Int) (p2 : Int) : CAct := (st 34 [(0, sv 0 p0.length ANY), (3, pt 1 0), (5, iv r21), (22, sv 2 0 0), (23, sv 0 p0.length ANY), (24, iv r21), (25, sv 0 (List.length (List.take (Int.toNat r21) p0)) ANY), (26, ownV 3 (List.length (List.take (Int.toNat r21) p0))), (27, ag [iv p1, iv p2]), (28, sv 4 1 1)])
def S48_5 (p0 : (List (Int × Int))) (r21 : Int) : CAct := (st 34 [(0, sv 0 p0.length ANY), (3, pt 1 0), (5, iv r21), (22, sv 2 0 0), (23, sv 0 p0.length ANY), (24, iv r21), (25, sv 0 (List.length (List.take (Int.toNat r21) p0)) ANY), (26, ownV 3 (List.length (List.take (Int.toNat r21) p0)))])
def S48_6 (p0 : (List (Int × Int))) (r21 : Int) : CAct := (st 34 [(0, sv 0 p0.length ANY), (3, pt 1 0), (5, iv r21), (22, sv 2 0 0), (23, sv 0 p0.length ANY), (24, iv r21), (25, sv 0 (List.length (List.take (Int.toNat r21) p0)) ANY)])
def H48_7 (p0 : (List (Int × Int))) (p1 : Int) (p2 : Int) (r21 : Int) : List Blk := [ab 55 e55 p0, cl 55 [iv p1, iv p2], .dead, .dead, cl 55 [iv p1, iv p2], .dead, .cells 55 (List.flatMap e55 (((List.take (Int.toNat r21) p0) ++ ([(p1, p2)])) ++ (List.drop (Int.toNat r21) p0)))]
def S48_8 (p0 : (List (Int × Int))) (r21 : Int) : CAct := (st 34 [(0, sv 0 p0.length ANY), (3, pt 1 0), (5, iv r21), (22, sv 2 0 0), (23, sv 0 p0.length ANY), (24, iv r21)])
def S48_9 (p0 : (List (Int × Int))) (v7 : Int) : CAct := (st 34 [(0, sv 0 p0.length ANY), (3, pt 1 0), (5, iv v7), (6, iv v7), (7, sv 0 p0.length ANY), (8, iv (p0.length : Int))])
def H48_10 (p0 : (List (Int × Int))) (p1 : Int) (p2 : Int) (r21 : Int) : List Blk := [ab 55 e55 p0, cl 55 [iv p1, iv p2], .dead, .dead, cl 55 [iv p1, iv p2], .cells 55 (List.flatMap e55 ((List.take (Int.toNat r21) p0) ++ ([(p1, p2)])))]
def H48_11 (p0 : (List (Int × Int))) (p1 : Int) (p2 : Int) (r21 : Int) : List Blk := [ab 55 e55 p0, cl 55 [iv p1, iv p2], .dead, .cells 55 (List.flatMap e55 (List.take (Int.toNat r21) p0)), cl 55 [iv p1, iv p2]]
def H48_12 (p0 : (List (Int × Int))) (p1 : Int) (p2 : Int) : List Blk := [ab 55 e55 p0, cl 55 [iv p1, iv p2], cl 55 []]
def H48_13 (p0 : (List (Int × Int))) (p1 : Int) (p2 : Int) : List Blk := [ab 55 e55 p0, cl 55 [iv p1, iv p2]]
def F48l0 (p0 : (List (Int × Int))) (p1 : Int) (p2 : Int) (v7 : Int) : Option Int :=
 (
  if decide (v7 < (p0.length : Int)) then
   if (0 : Int) ≤ v7 ∧ v7 < (p0.length : Int) then
    some (List.getD p0 (Int.toNat v7) (0, 0)) >>= fun o17 =>
    some (decide (o17.1 < p1))
   else none
  else
   some (false)
 : Option Bool) >>= fun m19 =>
 if m19 then
  F48l0 p0 p1 p2 (w64 (v7 + 1))
 else
  some v7
 partial_fixpoint
def F48 (p0 : (List (Int × Int))) (p1 : Int) (p2 : Int) : Option (List (Int × Int)) :=
 F48l0 p0 p1 p2 0 >>= fun r21 =>
 if (0 : Int) ≤ r21 ∧ r21 ≤ (p0.length : Int) then
  if List.length (List.take (Int.toNat r21) p0) ≤ 1000000000 then
   if List.length ((List.take (Int.toNat r21) p0) ++ ([(p1, p2)])) ≤ 1000000000 then
    if List.length (List.drop (Int.toNat r21) p0) ≤ 1000000000 then
     some (((List.take (Int.toNat r21) p0) ++ ([(p1, p2)])) ++ (List.drop (Int.toNat r21) p0))
    else none
   else none
  else none
 else none
def V48 (b : Nat) (r : (List (Int × Int))) : Value := ownV (b + 0) r.length
def N48 (b : Nat) (r : (List (Int × Int))) : List Blk := [.cells 55 (List.flatMap e55 r)]
def P48l0 (p0 : (List (Int × Int))) (p1 : Int) (p2 : Int) (r : Int) : Post := fun e a h => e = .exit 0 ∧ Wk Try.prog 1 1 a h (st 34 [(0, sv 0 p0.length ANY), (3, pt 1 0), (5, iv r)]) (H48_13 p0 p1 p2)
theorem L48l0 (p0 : (List (Int × Int))) (p1 : Int) (p2 : Int) (v7 : Int) (r : Int) (hF : F48l0 p0 p1 p2 v7 = some r) : TL Try.prog 1 1 c48.s2.s2.s1.bd.bd (st 34 [(0, sv 0 p0.length ANY), (3, pt 1 0), (5, iv v7)]) (H48_13 p0 p1 p2) (P48l0 p0 p1 p2 r) := by
 refine F48l0.partial_correctness p0 p1 p2 (motive := fun v7 r => TL Try.prog 1 1 c48.s2.s2.s1.bd.bd (st 34 [(0, sv 0 p0.length ANY), (3, pt 1 0), (5, iv v7)]) (H48_13 p0 p1 p2) (P48l0 p0 p1 p2 r)) ?_ v7 r hF
 clear hF r v7
 intro again ih v7 r hF
 refine TL.round (TS.sq (TS.sq ?_))
 have hX := of_do hF
 clear hF
 obtain ⟨m19, hm20, hF⟩ := hX
 have hK : NX Try.prog 1 1 [.sq c48.s2.s2.s1.bd.bd.s1.s2, .sq c48.s2.s2.s1.bd.bd.s2] (Rd Try.prog 1 1 c48.s2.s2.s1.bd.bd (P48l0 p0 p1 p2 r)) .normal (st 34 [(0, sv 0 p0.length ANY), (3, pt 1 0), (5, iv v7), (19, .bool m19)]) (H48_13 p0 p1 p2) := by
  refine NX.sq ?_
  cases m19 with
  | true =>
   replace hF := of_pos hF rfl
   refine TS.cdT (.tmp 19) (TS.sk (NX.sq (TS.bk 1 (TS.rg (TI.ra 3 [0, 3, 5] (st 34 [(0, sv 0 p0.length ANY), (3, pt 1 0), (5, iv (w64 (v7 + 1)))]) (TI.dn (NX.bk ?_)))))))
   exact Rd.again (a2 := (st 34 [(0, sv 0 p0.length ANY), (3, pt 1 0), (5, iv (w64 (v7 + 1)))])) (h2 := (H48_13 p0 p1 p2)) (Wk.an [1] (.ac (.lt (.fl (.fl .nil)) (.nil _))) [sv 0 p0.length ANY, pt 1 0, iv (w64 (v7 + 1))] (.sl (.pp (.fl .nil)))) (ih (w64 (v7 + 1)) _ hF)
  | false =>
   replace hF := of_neg hF rfl
   refine TS.cdF (.tmp 19) (TS.ex 0 (NX.sqX ?_))
   have hF := Option.some.inj hF
   subst hF
   exact Rd.out (e := .exit 0) (by intro h; cases h) (And.intro rfl (Wk.an [1] (.ac (.lt (.fl (.fl .nil)) (.nil _))) [sv 0 p0.length ANY, pt 1 0, iv v7] (.sl (.pp (.fl .nil)))))
 rcases Bool.eq_false_or_eq_true (decide (v7 < (p0.length : Int))) with hc15 | hc15
 · replace hm20 := of_pos hm20 hc15
   have hX := of_guard hm20
   clear hm20
   obtain ⟨hg16, hm20⟩ := hX
   have hX := of_do hm20
   clear hm20
   obtain ⟨o17, h18, hm20⟩ := hX
   replace h18 := Option.some.inj h18
   have hm20 := Option.some.inj hm20
   subst hm20
   refine TS.dp [] (fun e he => by cases he) mixed 12 [0, 3, 5, 19] [0, 1] (st 34 [(0, sv 0 p0.length ANY), (3, pt 1 0), (5, iv v7), (19, .bool (decide (o17.1 < p1)))]) (H48_13 p0 p1 p2) ?_ ?_
   · exact QJ.rn (qs (S48_9 p0 v7) (H48_13 p0 p1 p2) [] []) 3 (QJ.o { val := .bool true } (q_conv (e := decide (v7 < (p0.length : Int))) (b := true) (by kernel_rfl) hc15) (QJ.rn (qs (st 34 [(0, sv 0 p0.length ANY), (3, pt 1 0), (5, iv v7), (6, iv v7), (7, sv 0 p0.length ANY), (8, iv (p0.length : Int)), (9, .bool true), (10, .bool true), (11, sv 0 p0.length ANY), (12, iv v7)]) (H48_13 p0 p1 p2) [] []) 3 (QJ.o { val := .pointer (some ⟨0, 0 + (Int.toNat v7) * 2, none⟩) } (q_ixS 0 0 ((Int.toNat v7) * 2) (by kernel_rfl) hg16) (QJ.rn (qs (st 34 [(0, sv 0 p0.length ANY), (3, pt 1 0), (5, iv v7), (6, iv v7), (7, sv 0 p0.length ANY), (8, iv (p0.length : Int)), (9, .bool true), (10, .bool true), (11, sv 0 p0.length ANY), (12, iv v7), (13, .pointer (some ⟨0, 0 + (Int.toNat v7) * 2, none⟩)), (14, .pointer (some ⟨0, 0 + (Int.toNat v7) * 2, none⟩))]) (H48_13 p0 p1 p2) [] []) 1 (QJ.o { val := iv o17.1 } (q_n1a Try.prog (H48_13 p0 p1 p2) 3 0 (0 + (Int.toNat v7) * 2) p0 e55 2 55 (Int.toNat v7) 0 (0, 0) h18) (QJ.rn (qs (st 34 [(0, sv 0 p0.length ANY), (3, pt 1 0), (5, iv v7), (6, iv v7), (7, sv 0 p0.length ANY), (8, iv (p0.length : Int)), (9, .bool true), (10, .bool true), (11, sv 0 p0.length ANY), (12, iv v7), (13, .pointer (some ⟨0, 0 + (Int.toNat v7) * 2, none⟩)), (14, .pointer (some ⟨0, 0 + (Int.toNat v7) * 2, none⟩)), (15, iv o17.1), (16, pt 1 0), (17, iv p1)]) (H48_13 p0 p1 p2) [] []) 2 (QJ.dn ⟨rfl, SJ.la⟩)))))))
   exact hK
 replace hm20 := of_neg hm20 hc15
 have hm20 := Option.some.inj hm20
 subst hm20
 refine TS.dp [] (fun e he => by cases he) mixed 12 [0, 3, 5, 19] [0, 1] (st 34 [(0, sv 0 p0.length ANY), (3, pt 1 0), (5, iv v7), (19, .bool false)]) (H48_13 p0 p1 p2) ?_ ?_
 · exact QJ.rn (qs (S48_9 p0 v7) (H48_13 p0 p1 p2) [] []) 3 (QJ.o { val := .bool false } (q_conv (e := decide (v7 < (p0.length : Int))) (b := false) (by kernel_rfl) hc15) (QJ.rn (qs (st 34 [(0, sv 0 p0.length ANY), (3, pt 1 0), (5, iv v7), (6, iv v7), (7, sv 0 p0.length ANY), (8, iv (p0.length : Int)), (9, .bool false), (10, .bool false), (11, undef), (12, undef), (13, undef), (14, undef), (15, undef), (16, undef), (17, undef)]) (H48_13 p0 p1 p2) [] []) 8 (QJ.dn ⟨rfl, SJ.la⟩)))
 exact hK
theorem B48 (p0 : (List (Int × Int))) (p1 : Int) (p2 : Int) (r : (List (Int × Int))) (hF : F48 p0 p1 p2 = some r) : TS Try.prog 1 1 c48 (st 34 [(0, sv 0 p0.length ANY), (1, ag [iv p1, iv p2])]) [ab 55 e55 p0] (NX Try.prog 1 1 [] (FinP Try.prog Try.f48 1 (V48 1 r) (N48 1 r))) := by
 unfold F48 at hF
 refine TS.sq (TS.rg (TI.rn 2 [0, 3] [0, 1] (st 34 [(0, sv 0 p0.length ANY), (3, pt 1 0)]) (H48_13 p0 p1 p2) (TI.dn (NX.sq (TS.sq (TS.rg (TI.ra 1 [0, 3, 5] (st 34 [(0, sv 0 p0.length ANY), (3, pt 1 0), (5, iv 0)]) (TI.dn ?_))))))))
 refine NX.sq (TS.sq (TS.bk 0 ?_))
 have hX := of_do hF
 clear hF
 obtain ⟨r21, h22, hF⟩ := hX
 refine TS.lp (TL.weak (a2 := (st 34 [(0, sv 0 p0.length ANY), (3, pt 1 0), (5, iv 0)])) (h2 := (H48_13 p0 p1 p2)) (Wk.an [1] (.ac (.lt (.fl (.fl .nil)) (.nil _))) [sv 0 p0.length ANY, pt 1 0, iv 0] (.sl (.pp (.fl .nil)))) (TL.post (L48l0 p0 p1 p2 0 r21 h22) ?_))
 rintro e a1 h1 hp
 obtain ⟨rfl, hw⟩ := hp
 refine ⟨(st 34 [(0, sv 0 p0.length ANY), (3, pt 1 0), (5, iv r21)]), (H48_13 p0 p1 p2), (NX.bkX (NX.sq (TS.sq ?_))), hw⟩
 have hX := of_guard hF
 clear hF
 obtain ⟨hg23, hF⟩ := hX
 have hX := of_guard hF
 clear hF
 obtain ⟨hg24, hF⟩ := hX
 have hX := of_guard hF
 clear hF
 obtain ⟨hg25, hF⟩ := hX
 have hX := of_guard hF
 clear hF
 obtain ⟨hg26, hF⟩ := hX
 refine TS.draw' (id := 4) (b := true) (ops := c48.s2.s2.s2.s1.rops) (fin := (qs (S48_1 p0 r21 p1 p2) (H48_10 p0 p1 p2 r21) [(7, 5, 6), (6, 4, 5), (4, 3, 4), (0, 2, 3)] [(7, 3), (4, 2)])) (fin2 := (qs (S48_1 p0 r21 p1 p2) (H48_10 p0 p1 p2 r21) [(7, 5, 6), (6, 4, 5), (4, 3, 4), (0, 2, 3)] [(7, 3), (4, 2)])) (a1 := (S48_0 p0 r21 p1 p2)) (h1 := (H48_7 p0 p1 p2 r21)) (a2 := (st 34 [(4, ownV 6 (List.length (((List.take (Int.toNat r21) p0) ++ ([(p1, p2)])) ++ (List.drop (Int.toNat r21) p0))))])) (h2 := [ab 55 e55 p0, .dead, .dead, .dead, .dead, .dead, .cells 55 (List.flatMap e55 (((List.take (Int.toNat r21) p0) ++ ([(p1, p2)])) ++ (List.drop (Int.toNat r21) p0)))]) [] (fun e he => by cases he) mixed (by kernel_rfl) rfl 11 (by kernel_rfl) [(7, 3), (4, 2)] ?_ rfl (.inr ⟨?_, (by kernel_rfl)⟩) ?_ [4] [0, 6] (by kernel_rfl) ?_
 · refine QI.run (s1 := (qs (S48_8 p0 r21) (H48_12 p0 p1 p2) [(0, 2, 3)] [])) 3 (by kernel_rfl) (by kernel_rfl) (QI.op (q := { val := sv 0 (List.length (List.take (Int.toNat r21) p0)) ANY }) (s1 := (qs (S48_6 p0 r21) (H48_12 p0 p1 p2) [(0, 2, 3)] [])) (by decide) (q_slAhi (P := Try.prog) (t := 23) (e := 55) (s := 2) (b := 0) (off := 0) (ys := p0) (k := .i64) (y := r21) (by kernel_rfl) (by kernel_rfl) (by kernel_rfl) hg23) (by kernel_rfl) ?_)
   refine QI.op (q := { val := ownV 3 (List.length (List.take (Int.toNat r21) p0)), new := [.cells 55 (List.flatMap e55 (List.take (Int.toNat r21) p0))], upd := some (2, .dead) }) (s1 := (qs (S48_5 p0 r21) [ab 55 e55 p0, cl 55 [iv p1, iv p2], .dead, .cells 55 (List.flatMap e55 (List.take (Int.toNat r21) p0))] [(4, 3, 4), (0, 2, 3)] [(4, 2)])) (by decide) (q_appL (P := Try.prog) (base := 1) (hp := (H48_12 p0 p1 p2)) (n := 3) (s := 2) (enc := e55) (ts := #[23, 23]) (e := 55) (bytes := 16) (z := ag [iv 0, iv 0]) (y := sv 0 (List.length (List.take (Int.toNat r21) p0)) ANY) (ys := List.take (Int.toNat r21) p0) (b := 2) (t := 55) (by kernel_rfl) (by kernel_rfl) (by decide) (by kernel_rfl) (by kernel_rfl) (by kernel_rfl) (by kernel_rfl) (by kernel_rfl) (by kernel_rfl) (arg_win (e := 55) (off := 0) (L := p0) (ys := List.take (Int.toNat r21) p0) (win_take win_all _) (holds_acc (hp := (H48_12 p0 p1 p2)) (b := 0) (T := 55) (enc := e55) (L := p0) (by kernel_rfl)) (fun _ => rfl) (by kernel_rfl)) (by first | omega | (simp only [List.length_append, List.length_cons, List.length_nil]; omega))) (by kernel_rfl) (QI.run (s1 := (qs (S48_4 p0 r21 p1 p2) (H48_11 p0 p1 p2 r21) [(6, 4, 5), (4, 3, 4), (0, 2, 3)] [(4, 2)])) 2 (by kernel_rfl) (by kernel_rfl) ?_)
   exact QI.op (q := { val := ownV 5 (List.length ((List.take (Int.toNat r21) p0) ++ ([(p1, p2)]))), new := [.cells 55 (List.flatMap e55 ((List.take (Int.toNat r21) p0) ++ ([(p1, p2)])))], upd := some (3, .dead) }) (s1 := (qs (S48_3 p0 r21 p1 p2) (H48_10 p0 p1 p2 r21) [(7, 5, 6), (6, 4, 5), (4, 3, 4), (0, 2, 3)] [(7, 3), (4, 2)])) (by decide) (q_appO (P := Try.prog) (base := 1) (hp := (H48_11 p0 p1 p2 r21)) (n := 5) (s := 2) (enc := e55) (ts := #[23, 23]) (e := 55) (bytes := 16) (z := ag [iv 0, iv 0]) (y := sv 4 1 1) (ys := [(p1, p2)]) (b := 3) (l := List.take (Int.toNat r21) p0) (by kernel_rfl) (by kernel_rfl) (by decide) (by kernel_rfl) (by kernel_rfl) (by kernel_rfl) (by kernel_rfl) (by kernel_rfl) (by kernel_rfl) (cells_ok (fun _ => rfl)) (fun _ => rfl) (by first | omega | (simp only [List.length_append, List.length_cons, List.length_nil]; omega))) (by kernel_rfl) (QI.run (s1 := (qs (S48_2 p0 r21 p1 p2) (H48_10 p0 p1 p2 r21) [(7, 5, 6), (6, 4, 5), (4, 3, 4), (0, 2, 3)] [(7, 3), (4, 2)])) 2 (by kernel_rfl) (by kernel_rfl) (QI.op (q := { val := .slice (some ⟨0, 0 + Int.toNat r21 * 2, none⟩) (List.length (List.drop (Int.toNat r21) p0)) ANY }) (s1 := (qs (S48_1 p0 r21 p1 p2) (H48_10 p0 p1 p2 r21) [(7, 5, 6), (6, 4, 5), (4, 3, 4), (0, 2, 3)] [(7, 3), (4, 2)])) (by decide) (q_slAlo (P := Try.prog) (t := 23) (e := 55) (s := 2) (b := 0) (off := 0) (ys := p0) (k := .i64) (y := r21) (by kernel_rfl) (by kernel_rfl) (by kernel_rfl) hg23) (by kernel_rfl) (QI.done (by kernel_rfl))))
 · refine QI.run (s1 := (qs (S48_8 p0 r21) (H48_12 p0 p1 p2) [(0, 2, 3)] [])) 3 (by kernel_rfl) (by kernel_rfl) (QI.op (q := { val := sv 0 (List.length (List.take (Int.toNat r21) p0)) ANY }) (s1 := (qs (S48_6 p0 r21) (H48_12 p0 p1 p2) [(0, 2, 3)] [])) (by decide) (q_slAhi (P := Try.prog) (t := 23) (e := 55) (s := 2) (b := 0) (off := 0) (ys := p0) (k := .i64) (y := r21) (by kernel_rfl) (by kernel_rfl) (by kernel_rfl) hg23) (by kernel_rfl) ?_)
   refine QI.op (q := { val := ownV 3 (List.length (List.take (Int.toNat r21) p0)), new := [.cells 55 (List.flatMap e55 (List.take (Int.toNat r21) p0))], upd := some (2, .dead) }) (s1 := (qs (S48_5 p0 r21) [ab 55 e55 p0, cl 55 [iv p1, iv p2], .dead, .cells 55 (List.flatMap e55 (List.take (Int.toNat r21) p0))] [(4, 3, 4), (0, 2, 3)] [(4, 2)])) (by decide) (q_appL (P := Try.prog) (base := 1) (hp := (H48_12 p0 p1 p2)) (n := 3) (s := 2) (enc := e55) (ts := #[23, 23]) (e := 55) (bytes := 16) (z := ag [iv 0, iv 0]) (y := sv 0 (List.length (List.take (Int.toNat r21) p0)) ANY) (ys := List.take (Int.toNat r21) p0) (b := 2) (t := 55) (by kernel_rfl) (by kernel_rfl) (by decide) (by kernel_rfl) (by kernel_rfl) (by kernel_rfl) (by kernel_rfl) (by kernel_rfl) (by kernel_rfl) (arg_win (e := 55) (off := 0) (L := p0) (ys := List.take (Int.toNat r21) p0) (win_take win_all _) (holds_acc (hp := (H48_12 p0 p1 p2)) (b := 0) (T := 55) (enc := e55) (L := p0) (by kernel_rfl)) (fun _ => rfl) (by kernel_rfl)) (by first | omega | (simp only [List.length_append, List.length_cons, List.length_nil]; omega))) (by kernel_rfl) (QI.run (s1 := (qs (S48_4 p0 r21 p1 p2) (H48_11 p0 p1 p2 r21) [(6, 4, 5), (4, 3, 4), (0, 2, 3)] [(4, 2)])) 2 (by kernel_rfl) (by kernel_rfl) ?_)
   exact QI.op (q := { val := ownV 5 (List.length ((List.take (Int.toNat r21) p0) ++ ([(p1, p2)]))), new := [.cells 55 (List.flatMap e55 ((List.take (Int.toNat r21) p0) ++ ([(p1, p2)])))], upd := some (3, .dead) }) (s1 := (qs (S48_3 p0 r21 p1 p2) (H48_10 p0 p1 p2 r21) [(7, 5, 6), (6, 4, 5), (4, 3, 4), (0, 2, 3)] [(7, 3), (4, 2)])) (by decide) (q_appO (P := Try.prog) (base := 1) (hp := (H48_11 p0 p1 p2 r21)) (n := 5) (s := 2) (enc := e55) (ts := #[23, 23]) (e := 55) (bytes := 16) (z := ag [iv 0, iv 0]) (y := sv 4 1 1) (ys := [(p1, p2)]) (b := 3) (l := List.take (Int.toNat r21) p0) (by kernel_rfl) (by kernel_rfl) (by decide) (by kernel_rfl) (by kernel_rfl) (by kernel_rfl) (by kernel_rfl) (by kernel_rfl) (by kernel_rfl) (cells_ok (fun _ => rfl)) (fun _ => rfl) (by first | omega | (simp only [List.length_append, List.length_cons, List.length_nil]; omega))) (by kernel_rfl) (QI.run (s1 := (qs (S48_2 p0 r21 p1 p2) (H48_10 p0 p1 p2 r21) [(7, 5, 6), (6, 4, 5), (4, 3, 4), (0, 2, 3)] [(7, 3), (4, 2)])) 2 (by kernel_rfl) (by kernel_rfl) (QI.op (q := { val := .slice (some ⟨0, 0 + Int.toNat r21 * 2, none⟩) (List.length (List.drop (Int.toNat r21) p0)) ANY }) (s1 := (qs (S48_1 p0 r21 p1 p2) (H48_10 p0 p1 p2 r21) [(7, 5, 6), (6, 4, 5), (4, 3, 4), (0, 2, 3)] [(7, 3), (4, 2)])) (by decide) (q_slAlo (P := Try.prog) (t := 23) (e := 55) (s := 2) (b := 0) (off := 0) (ys := p0) (k := .i64) (y := r21) (by kernel_rfl) (by kernel_rfl) (by kernel_rfl) hg23) (by kernel_rfl) (QI.done (by kernel_rfl))))
 · exact SI.op (q := { val := ownV 6 (List.length (((List.take (Int.toNat r21) p0) ++ ([(p1, p2)])) ++ (List.drop (Int.toNat r21) p0))), new := [.cells 55 (List.flatMap e55 (((List.take (Int.toNat r21) p0) ++ ([(p1, p2)])) ++ (List.drop (Int.toNat r21) p0)))], upd := some (5, .dead) }) (a2 := (st 34 [(0, sv 0 p0.length ANY), (3, pt 1 0), (5, iv r21), (22, sv 2 0 0), (23, sv 0 p0.length ANY), (24, iv r21), (25, sv 0 (List.length (List.take (Int.toNat r21) p0)) ANY), (26, ownV 3 (List.length (List.take (Int.toNat r21) p0))), (27, ag [iv p1, iv p2]), (28, sv 4 1 1), (29, ownV 5 (List.length ((List.take (Int.toNat r21) p0) ++ ([(p1, p2)])))), (30, sv 0 p0.length ANY), (31, iv r21), (32, .slice (some ⟨0, 0 + Int.toNat r21 * 2, none⟩) (List.length (List.drop (Int.toNat r21) p0)) ANY), (33, ownV 6 (List.length (((List.take (Int.toNat r21) p0) ++ ([(p1, p2)])) ++ (List.drop (Int.toNat r21) p0))))])) (h2 := (H48_7 p0 p1 p2 r21)) (by kernel_rfl) (q_appO (P := Try.prog) (base := 1) (hp := (H48_10 p0 p1 p2 r21)) (n := 6) (s := 2) (enc := e55) (ts := #[23, 23]) (e := 55) (bytes := 16) (z := ag [iv 0, iv 0]) (y := .slice (some ⟨0, 0 + Int.toNat r21 * 2, none⟩) (List.length (List.drop (Int.toNat r21) p0)) ANY) (ys := List.drop (Int.toNat r21) p0) (b := 5) (l := (List.take (Int.toNat r21) p0) ++ ([(p1, p2)])) (by kernel_rfl) (by kernel_rfl) (by decide) (by kernel_rfl) (by kernel_rfl) (by kernel_rfl) (by kernel_rfl) (by kernel_rfl) (arg_win (e := 55) (off := 0 + Int.toNat r21 * 2) (L := p0) (ys := List.drop (Int.toNat r21) p0) (win_drop win_all _) (holds_acc (hp := (H48_10 p0 p1 p2 r21)) (b := 0) (T := 55) (enc := e55) (L := p0) (by kernel_rfl)) (fun _ => rfl) (by kernel_rfl)) (cells_ok (fun _ => rfl)) (fun _ => rfl) (by first | omega | (simp only [List.length_append, List.length_cons, List.length_nil]; omega))) (by kernel_rfl) (by kernel_rfl) (SI.run (a2 := (S48_0 p0 r21 p1 p2)) (h2 := (H48_7 p0 p1 p2 r21)) 1 (by kernel_rfl) (SI.done (by kernel_rfl)))
 refine TS.rt ?_
 have hF := Option.some.inj hF
 subst hF
 exact ⟨.inr rfl, rfl, ownV 6 (List.length (((List.take (Int.toNat r21) p0) ++ ([(p1, p2)])) ++ (List.drop (Int.toNat r21) p0))), by kernel_rfl, WkV.made (L := 1) (f := [6]) (by decide) (by decide) rfl (.cons (At.blk (by kernel_rfl) (RnB.list (fun _ => rfl))) (.nil _)) (Rn.own (Nat.le_of_ble_eq_true rfl) rfl (by simp only [List.length_set]))⟩
theorem C48 (p0 : (List (Int × Int))) (p1 : Int) (p2 : Int) (r : (List (Int × Int))) (hF : F48 p0 p1 p2 = some r) : PureSim Try.prog 48 [sv 0 p0.length ANY, ag [iv p1, iv p2]] [ab 55 e55 p0] (V48 1 r) (N48 1 r) :=
 PureSim.of_Fin Try.func48 (c := c48) (by kernel_rfl) (by kernel_rfl) 1 rfl [0, 1] [0] (by kernel_rfl) (B48 p0 p1 p2 r hF)
noncomputable def c28 : Code := Try.f28.code
def H28_0 (p0 : (List (Int × Int))) (p1 : (List (Int × Int))) : List Blk := [ab 29 e29 p0, ab 29 e29 p1]
def F28l0 (p0 : (List (Int × Int))) (p1 : (List (Int × Int))) (v10 : Int) : Option (Unit ⊕ Unit) :=
 if decide (v10 < (p0.length : Int)) then
  if (0 : Int) ≤ v10 ∧ v10 < (p0.length : Int) then
   some (List.getD p0 (Int.toNat v10) (0, 0)) >>= fun o22 =>
   if (0 : Int) ≤ v10 ∧ v10 < (p1.length : Int) then
    some (List.getD p1 (Int.toNat v10) (0, 0)) >>= fun o25 =>
    if !((o22.1 == o25.1) && ((o22.2 == o25.2) && true)) then
     some (.inl ())
    else
     F28l0 p0 p1 (w64 (v10 + 1))
   else none
  else none
 else
  some (.inr ())
 partial_fixpoint
def F28 (p0 : (List (Int × Int))) (p1 : (List (Int × Int))) : Option Bool :=
 if (p0.length : Int) != (p1.length : Int) then
  some false
 else
  F28l0 p0 p1 0 >>= fun r28 =>
  match r28 with
  | .inl o30 =>
   some false
  | .inr o31 =>
   some true
def V28 (b : Nat) (r : Bool) : Value := .bool r
def N28 (b : Nat) (r : Bool) : List Blk := []
def P28l0 (p0 : (List (Int × Int))) (p1 : (List (Int × Int))) (r : (Unit ⊕ Unit)) : Post := fun e a h => (match r with | .inl q0 => e = .ret ∧ Wk Try.prog 2 2 a h (st 26 [(4, .bool false)]) (H28_0 p0 p1) | .inr q0 => e = .exit 0 ∧ Wk Try.prog 2 2 a h (st 26 []) (H28_0 p0 p1))
theorem L28l0 (p0 : (List (Int × Int))) (p1 : (List (Int × Int))) (v10 : Int) (r : (Unit ⊕ Unit)) (hF : F28l0 p0 p1 v10 = some r) : TL Try.prog 2 2 c28.s2.s2.s1.s2.bd.bd (st 26 [(0, sv 0 p0.length ANY), (1, sv 1 p1.length ANY), (5, iv v10)]) (H28_0 p0 p1) (P28l0 p0 p1 r) := by
 refine F28l0.partial_correctness p0 p1 (motive := fun v10 r => TL Try.prog 2 2 c28.s2.s2.s1.s2.bd.bd (st 26 [(0, sv 0 p0.length ANY), (1, sv 1 p1.length ANY), (5, iv v10)]) (H28_0 p0 p1) (P28l0 p0 p1 r)) ?_ v10 r hF
 clear hF r v10
 intro again ih v10 r hF
 refine TL.round (TS.sq (TS.sq (TS.rg (TI.ra 4 [0, 1, 5, 14] (st 26 [(0, sv 0 p0.length ANY), (1, sv 1 p1.length ANY), (5, iv v10), (14, .bool (decide (v10 < (p0.length : Int))))]) (TI.dn (NX.sq ?_))))))
 refine TS.cd (.tmp 14) (decide (v10 < (p0.length : Int))) (fun hc20 => ?_) (fun hc20 => ?_)
 · replace hF := of_pos hF hc20
   refine TS.sk (NX.sq (TS.sq (TS.bk 1 (TS.sq ?_))))
   have hX := of_guard hF
   clear hF
   obtain ⟨hg21, hF⟩ := hX
   have hX := of_do hF
   clear hF
   obtain ⟨o22, h23, hF⟩ := hX
   replace h23 := Option.some.inj h23
   have hX := of_guard hF
   clear hF
   obtain ⟨hg24, hF⟩ := hX
   have hX := of_do hF
   clear hF
   obtain ⟨o25, h26, hF⟩ := hX
   replace h26 := Option.some.inj h26
   refine TS.dp [] (fun e he => by cases he) mixed 8 [0, 1, 5, 25] [0, 1] (st 26 [(0, sv 0 p0.length ANY), (1, sv 1 p1.length ANY), (5, iv v10), (25, .bool (!((o22.1 == o25.1) && ((o22.2 == o25.2) && true))))]) (H28_0 p0 p1) ?_ ?_
   · exact QJ.rn (qs (st 26 [(0, sv 0 p0.length ANY), (1, sv 1 p1.length ANY), (5, iv v10), (14, .bool (decide (v10 < (p0.length : Int)))), (17, sv 0 p0.length ANY), (18, iv v10)]) (H28_0 p0 p1) [] []) 2 (QJ.o { val := .pointer (some ⟨0, 0 + (Int.toNat v10) * 2, none⟩) } (q_ixS 0 0 ((Int.toNat v10) * 2) (by kernel_rfl) hg21) (QJ.o { val := ag [iv o22.1, iv o22.2] } (q_nAa Try.prog (H28_0 p0 p1) 29 0 (0 + (Int.toNat v10) * 2) p0 e29 2 29 (Int.toNat v10) (0, 0) h23) (QJ.rn (qs (st 26 [(0, sv 0 p0.length ANY), (1, sv 1 p1.length ANY), (5, iv v10), (14, .bool (decide (v10 < (p0.length : Int)))), (17, sv 0 p0.length ANY), (18, iv v10), (19, .pointer (some ⟨0, 0 + (Int.toNat v10) * 2, none⟩)), (20, ag [iv o22.1, iv o22.2]), (21, sv 1 p1.length ANY), (22, iv v10)]) (H28_0 p0 p1) [] []) 2 (QJ.o { val := .pointer (some ⟨1, 0 + (Int.toNat v10) * 2, none⟩) } (q_ixS 1 0 ((Int.toNat v10) * 2) (by kernel_rfl) hg24) (QJ.o { val := ag [iv o25.1, iv o25.2] } (q_nAa Try.prog (H28_0 p0 p1) 29 1 (0 + (Int.toNat v10) * 2) p1 e29 2 29 (Int.toNat v10) (0, 0) h26) (QJ.dn ⟨rfl, SJ.la⟩))))))
   refine TS.cd (.tmp 25) (!((o22.1 == o25.1) && ((o22.2 == o25.2) && true))) (fun hc27 => ?_) (fun hc27 => ?_)
   · replace hF := of_pos hF hc27
     refine TS.sq (TS.rg (TI.ra 1 [4] (st 26 [(4, .bool false)]) (TI.dn (NX.sq (TS.rt (NX.bkR (NX.sqR ?_)))))))
     have hF := Option.some.inj hF
     subst hF
     exact Rd.out (e := .ret) (by intro h; cases h) (And.intro rfl (Wk.an [] (.ac (.ac (.nil _))) [.bool false] (.fl .nil)))
   replace hF := of_neg hF hc27
   refine TS.sk (NX.bk (NX.sq (TS.rg (TI.ra 3 [0, 1, 5] (st 26 [(0, sv 0 p0.length ANY), (1, sv 1 p1.length ANY), (5, iv (w64 (v10 + 1)))]) (TI.dn ?_)))))
   exact Rd.again (a2 := (st 26 [(0, sv 0 p0.length ANY), (1, sv 1 p1.length ANY), (5, iv (w64 (v10 + 1)))])) (h2 := (H28_0 p0 p1)) (Wk.an [] (.ac (.ac (.nil _))) [sv 0 p0.length ANY, sv 1 p1.length ANY, iv (w64 (v10 + 1))] (.sl (.sl (.fl .nil)))) (ih (w64 (v10 + 1)) _ hF)
 replace hF := of_neg hF hc20
 refine TS.ex 0 (NX.sqX ?_)
 have hF := Option.some.inj hF
 subst hF
 exact Rd.out (e := .exit 0) (by intro h; cases h) (And.intro rfl (Wk.an [] (.ac (.ac (.nil _))) [] .nil))
theorem B28 (p0 : (List (Int × Int))) (p1 : (List (Int × Int))) (r : Bool) (hF : F28 p0 p1 = some r) : TS Try.prog 2 2 c28 (st 26 [(0, sv 0 p0.length ANY), (1, sv 1 p1.length ANY)]) (H28_0 p0 p1) (NX Try.prog 2 2 [] (FinP Try.prog Try.f28 2 (V28 2 r) (N28 2 r))) := by
 unfold F28 at hF
 refine TS.sq (TS.rg (TI.ra 1 [0, 1] (st 26 [(0, sv 0 p0.length ANY), (1, sv 1 p1.length ANY)]) (TI.dn (NX.sq (TS.sq (TS.sq (TS.rg (TI.ra 5 [0, 1, 10] (st 26 [(0, sv 0 p0.length ANY), (1, sv 1 p1.length ANY), (10, .bool ((p0.length : Int) != (p1.length : Int)))]) ?_))))))))
 refine TI.dn (NX.sq ?_)
 refine TS.cd (.tmp 10) ((p0.length : Int) != (p1.length : Int)) (fun hc1 => ?_) (fun hc1 => ?_)
 · replace hF := of_pos hF hc1
   refine TS.sq (TS.rg (TI.ra 1 [4] (st 26 [(4, .bool false)]) (TI.dn (NX.sq (TS.rt (NX.sqR ?_))))))
   have hF := Option.some.inj hF
   subst hF
   exact ⟨.inr rfl, rfl, .bool false, by kernel_rfl, WkV.flat0 (by kernel_rfl) (Nat.le_of_ble_eq_true rfl)⟩
 replace hF := of_neg hF hc1
 refine TS.sk (NX.sq (TS.sq (TS.sq (TS.rg (TI.ra 1 [0, 1, 5] (st 26 [(0, sv 0 p0.length ANY), (1, sv 1 p1.length ANY), (5, iv 0)]) (TI.dn (NX.sq (TS.bk 0 ?_))))))))
 have hX := of_do hF
 clear hF
 obtain ⟨r28, h29, hF⟩ := hX
 refine TS.lp (TL.weak (a2 := (st 26 [(0, sv 0 p0.length ANY), (1, sv 1 p1.length ANY), (5, iv 0)])) (h2 := (H28_0 p0 p1)) (Wk.an [] (.ac (.ac (.nil _))) [sv 0 p0.length ANY, sv 1 p1.length ANY, iv 0] (.sl (.sl (.fl .nil)))) (TL.post (L28l0 p0 p1 0 r28 h29) ?_))
 rintro e a1 h1 hp
 rcases r28 with o30 | o31
 · skip
   obtain ⟨rfl, hw⟩ := hp
   refine ⟨(st 26 [(4, .bool false)]), (H28_0 p0 p1), (NX.bkR (NX.sqR ?_)), hw⟩
   have hF := Option.some.inj hF
   subst hF
   exact ⟨.inr rfl, rfl, .bool false, by kernel_rfl, WkV.flat0 (by kernel_rfl) (Nat.le_of_ble_eq_true rfl)⟩
 skip
 obtain ⟨rfl, hw⟩ := hp
 refine ⟨(st 26 []), (H28_0 p0 p1), (NX.bkX (NX.sq (TS.sq (TS.rg (TI.ra 1 [4] (st 26 [(4, .bool true)]) (TI.dn (NX.sq (TS.rt ?_)))))))), hw⟩
 have hF := Option.some.inj hF
 subst hF
 exact ⟨.inr rfl, rfl, .bool true, by kernel_rfl, WkV.flat0 (by kernel_rfl) (Nat.le_of_ble_eq_true rfl)⟩
theorem C28 (p0 : (List (Int × Int))) (p1 : (List (Int × Int))) (r : Bool) (hF : F28 p0 p1 = some r) : PureSim Try.prog 28 [sv 0 p0.length ANY, sv 1 p1.length ANY] (H28_0 p0 p1) (V28 2 r) (N28 2 r) :=
 PureSim.of_Fin Try.func28 (c := c28) (by kernel_rfl) (by kernel_rfl) 2 rfl [0, 1] [0, 1] (by kernel_rfl) (B28 p0 p1 r hF)
end
end Go.Proofs.Ythpfffijnkmdgaa
