/- What functions of the program compute, and that they do. -/
import Derived.Test.YtiaippkjgmccoaaKD
import Derived.Test.YtiaippkjgmccoaaKEq
set_option linter.unusedVariables false
set_option linter.unusedSimpArgs false
set_option maxRecDepth 100000
set_option maxHeartbeats 4000000
namespace Go.Proofs.Ytiaippkjgmccoaa
open Go Go.Cl
noncomputable section
noncomputable def c69 : Code := Try.f69.code
def S69_0 (r19 : (Bool × (List (Int × Bool)))) (v28 : (List (Int × Bool))) (v29 : Int) (v30 : Int) (o42 : (Int × Bool)) (o45 : (Int × Bool)) : CAct := (st 28 [(0, fo 3 r19.1 v28.length), (2, iv v29), (3, iv v30), (9, .bool (decide (v29 < v30))), (14, fo 3 r19.1 v28.length), (15, iv v29), (16, fo 3 r19.1 v28.length), (17, iv v30), (18, fo 3 r19.1 v28.length), (19, iv v30), (20, .pointer (some ⟨3, 0 + (Int.toNat v30) * 2, none⟩)), (21, ag [iv o42.1, .bool o42.2]), (22, fo 3 r19.1 v28.length), (23, iv v29), (24, .pointer (some ⟨3, 0 + (Int.toNat v29) * 2, none⟩)), (25, ag [iv o45.1, .bool o45.2]), (26, .pointer (some ⟨3, 0 + (Int.toNat v29) * 2, none⟩)), (27, .pointer (some ⟨3, 0 + (Int.toNat v30) * 2, none⟩))])
def S69_1 (r19 : (Bool × (List (Int × Bool)))) (v28 : (List (Int × Bool))) (v29 : Int) (v30 : Int) (o42 : (Int × Bool)) (o45 : (Int × Bool)) : CAct := (st 28 [(0, fo 3 r19.1 v28.length), (2, iv v29), (3, iv v30), (9, .bool (decide (v29 < v30))), (14, fo 3 r19.1 v28.length), (15, iv v29), (16, fo 3 r19.1 v28.length), (17, iv v30), (18, fo 3 r19.1 v28.length), (19, iv v30), (20, .pointer (some ⟨3, 0 + (Int.toNat v30) * 2, none⟩)), (21, ag [iv o42.1, .bool o42.2]), (22, fo 3 r19.1 v28.length), (23, iv v29), (24, .pointer (some ⟨3, 0 + (Int.toNat v29) * 2, none⟩)), (25, ag [iv o45.1, .bool o45.2]), (26, .pointer (some ⟨3, 0 + (Int.toNat v29) * 2, none⟩))])
def S69_2 (r19 : (Bool × (List (Int × Bool)))) (v28 : (List (Int × Bool))) (v29 : Int) (v30 : Int) (o42 : (Int × Bool)) (o45 : (Int × Bool)) : CAct := (st 28 [(0, fo 3 r19.1 v28.length), (2, iv v29), (3, iv v30), (9, .bool (decide (v29 < v30))), (14, fo 3 r19.1 v28.length), (15, iv v29), (16, fo 3 r19.1 v28.length), (17, iv v30), (18, fo 3 r19.1 v28.length), (19, iv v30), (20, .pointer (some ⟨3, 0 + (Int.toNat v30) * 2, none⟩)), (21, ag [iv o42.1, .bool o42.2]), (22, fo 3 r19.1 v28.length), (23, iv v29), (24, .pointer (some ⟨3, 0 + (Int.toNat v29) * 2, none⟩)), (25, ag [iv o45.1, .bool o45.2])])
def S69_3 (r19 : (Bool × (List (Int × Bool)))) (v28 : (List (Int × Bool))) (v29 : Int) (v30 : Int) (o42 : (Int × Bool)) : CAct := (st 28 [(0, fo 3 r19.1 v28.length), (2, iv v29), (3, iv v30), (9, .bool (decide (v29 < v30))), (14, fo 3 r19.1 v28.length), (15, iv v29), (16, fo 3 r19.1 v28.length), (17, iv v30), (18, fo 3 r19.1 v28.length), (19, iv v30), (20, .pointer (some ⟨3, 0 + (Int.toNat v30) * 2, none⟩)), (21, ag [iv o42.1, .bool o42.2]), (22, fo 3 r19.1 v28.length), (23, iv v29), (24, .pointer (some ⟨3, 0 + (Int.toNat v29) * 2, none⟩))])
def S69_4 (r19 : (Bool × (List (Int × Bool)))) (v28 : (List (Int × Bool))) (v29 : Int) (v30 : Int) (o42 : (Int × Bool)) : CAct := (st 28 [(0, fo 3 r19.1 v28.length), (2, iv v29), (3, iv v30), (9, .bool (decide (v29 < v30))), (14, fo 3 r19.1 v28.length), (15, iv v29), (16, fo 3 r19.1 v28.length), (17, iv v30), (18, fo 3 r19.1 v28.length), (19, iv v30), (20, .pointer (some ⟨3, 0 + (Int.toNat v30) * 2, none⟩)), (21, ag [iv o42.1, .bool o42.2]), (22, fo 3 r19.1 v28.length), (23, iv v29)])
def S69_5 (r19 : (Bool × (List (Int × Bool)))) (v28 : (List (Int × Bool))) (v29 : Int) (v30 : Int) (o42 : (Int × Bool)) : CAct := (st 28 [(0, fo 3 r19.1 v28.length), (2, iv v29), (3, iv v30), (9, .bool (decide (v29 < v30))), (14, fo 3 r19.1 v28.length), (15, iv v29), (16, fo 3 r19.1 v28.length), (17, iv v30), (18, fo 3 r19.1 v28.length), (19, iv v30), (20, .pointer (some ⟨3, 0 + (Int.toNat v30) * 2, none⟩)), (21, ag [iv o42.1, .bool o42.2])])
def S69_6 (r19 : (Bool × (List (Int × Bool)))) (v28 : (List (Int × Bool))) (v29 : Int) (v30 : Int) : CAct := (st 28 [(0, fo 3 r19.1 v28.length), (2, iv v29), (3, iv v30), (9, .bool (decide (v29 < v30))), (14, fo 3 r19.1 v28.length), (15, iv v29), (16, fo 3 r19.1 v28.length), (17, iv v30), (18, fo 3 r19.1 v28.length), (19, iv v30), (20, .pointer (some ⟨3, 0 + (Int.toNat v30) * 2, none⟩))])
def H69_7 (p0 : Int) (p1 : (List ((Int × Bool) × (Int × Bool)))) (p2 : (List ((Int × Bool) × (Int × Bool)))) (v28 : (List (Int × Bool))) (v29 : Int) (o42 : (Int × Bool)) (v30 : Int) (o45 : (Int × Bool)) : List Blk := [cl 126 [iv p0, sv 1 p1.length ANY, .map (some 2)], ab 86 e86 p1, mb 50 u50 u50 p2, .cells 50 (List.flatMap e50 (List.set (List.set v28 (Int.toNat v29) (o42.1, o42.2)) (Int.toNat v30) (o45.1, o45.2)))]
def S69_8 (r19 : (Bool × (List (Int × Bool)))) (v28 : (List (Int × Bool))) (v29 : Int) (v30 : Int) : CAct := (st 28 [(0, fo 3 r19.1 v28.length), (2, iv v29), (3, iv v30), (9, .bool (decide (v29 < v30))), (14, fo 3 r19.1 v28.length), (15, iv v29), (16, fo 3 r19.1 v28.length), (17, iv v30), (18, fo 3 r19.1 v28.length), (19, iv v30)])
def H69_9 (p0 : Int) (p1 : (List ((Int × Bool) × (Int × Bool)))) (p2 : (List ((Int × Bool) × (Int × Bool)))) (v28 : (List (Int × Bool))) (v29 : Int) (o42 : (Int × Bool)) : List Blk := [cl 126 [iv p0, sv 1 p1.length ANY, .map (some 2)], ab 86 e86 p1, mb 50 u50 u50 p2, .cells 50 (List.flatMap e50 (List.set v28 (Int.toNat v29) (o42.1, o42.2)))]
def H69_10 (p0 : Int) (p1 : (List ((Int × Bool) × (Int × Bool)))) (p2 : (List ((Int × Bool) × (Int × Bool)))) (v4 : Int) (v5 : Bool) (v7 : (List (Int × Bool))) : List Blk := [cl 126 [iv p0, sv 1 p1.length ANY, .map (some 2)], ab 86 e86 p1, mb 50 u50 u50 p2, cl 50 [iv v4, .bool v5], .cells 50 (List.flatMap e50 v7)]
def H69_11 (p0 : Int) (p1 : (List ((Int × Bool) × (Int × Bool)))) (p2 : (List ((Int × Bool) × (Int × Bool)))) (v28 : (List (Int × Bool))) : List Blk := [cl 126 [iv p0, sv 1 p1.length ANY, .map (some 2)], ab 86 e86 p1, mb 50 u50 u50 p2, .cells 50 (List.flatMap e50 v28)]
def H69_12 (p0 : Int) (p1 : (List ((Int × Bool) × (Int × Bool)))) (p2 : (List ((Int × Bool) × (Int × Bool)))) (r47 : (List (Int × Bool))) : List Blk := [cl 126 [iv p0, sv 1 p1.length ANY, .map (some 2)], ab 86 e86 p1, mb 50 u50 u50 p2, .cells 50 (List.flatMap e50 r47)]
noncomputable def c69f82 : Code := Try.f82.code
def F69l0 (p0 : Int) (p1 : (List ((Int × Bool) × (Int × Bool)))) (p2 : (List ((Int × Bool) × (Int × Bool)))) (v6 : Bool) (v7 : (List (Int × Bool))) (v4 : Int) (v5 : Bool) : Option (Bool × (List (Int × Bool))) :=
 some (Option.getD (mget p2 (v4, v5)) (0, false)) >>= fun o14 =>
 if !((o14.1 == v4) && ((o14.2 == v5) && true)) then
  if List.length v7 ≤ 1000000000 then
   F69l0 p0 p1 p2 false (v7 ++ [(o14.1, o14.2)]) o14.1 o14.2
  else none
 else
  some (v6, v7)
 partial_fixpoint
def F69l1 (p0 : Int) (p1 : (List ((Int × Bool) × (Int × Bool)))) (p2 : (List ((Int × Bool) × (Int × Bool)))) (r19 : (Bool × (List (Int × Bool)))) (v29 : Int) (v30 : Int) (v28 : (List (Int × Bool))) : Option (List (Int × Bool)) :=
 if decide (v29 < v30) then
  if (0 : Int) ≤ v30 ∧ v30 < (v28.length : Int) then
   some (List.getD v28 (Int.toNat v30) (0, false)) >>= fun o42 =>
   if (0 : Int) ≤ v29 ∧ v29 < (v28.length : Int) then
    some (List.getD v28 (Int.toNat v29) (0, false)) >>= fun o45 =>
    F69l1 p0 p1 p2 r19 (w64 (v29 + 1)) (w64 (v30 - 1)) (List.set (List.set v28 (Int.toNat v29) (o42.1, o42.2)) (Int.toNat v30) (o45.1, o45.2))
   else none
  else none
 else
  some v28
 partial_fixpoint
def F69 (p0 : Int) (p1 : (List ((Int × Bool) × (Int × Bool)))) (p2 : (List ((Int × Bool) × (Int × Bool)))) (p3 : Int) (p4 : Bool) : Option (List (Int × Bool)) :=
 F69l0 p0 p1 p2 true ([(p3, p4)]) p3 p4 >>= fun r19 =>
 F69l1 p0 p1 p2 r19 0 (w64 ((r19.2.length : Int) - 1)) r19.2 >>= fun r47 =>
 if List.length r47 = List.length r19.2 then
  some r47
 else none
def V69 (b : Nat) (r : (List (Int × Bool))) : Value := .slice (some ⟨b + 0, 0, none⟩) r.length ANY
def N69 (b : Nat) (r : (List (Int × Bool))) : List Blk := [ab 50 e50 r]
def P69l0 (p0 : Int) (p1 : (List ((Int × Bool) × (Int × Bool)))) (p2 : (List ((Int × Bool) × (Int × Bool)))) (r : (Bool × (List (Int × Bool)))) : Post := fun e a h => e = .exit 0 ∧ Wk Try.prog 3 3 a h (st 29 [(5, fo 3 r.1 r.2.length)]) [cl 126 [iv p0, sv 1 p1.length ANY, .map (some 2)], ab 86 e86 p1, mb 50 u50 u50 p2, .cells 50 (List.flatMap e50 r.2)]
theorem L69l0 (p0 : Int) (p1 : (List ((Int × Bool) × (Int × Bool)))) (p2 : (List ((Int × Bool) × (Int × Bool)))) (v6 : Bool) (v7 : (List (Int × Bool))) (v4 : Int) (v5 : Bool) (r : (Bool × (List (Int × Bool)))) (hF : F69l0 p0 p1 p2 v6 v7 v4 v5 = some r) : TL Try.prog 3 3 c69.s2.s2.s1.bd.bd (st 29 [(0, pt 0 0), (3, pt 3 0), (5, fo 4 v6 v7.length)]) (H69_10 p0 p1 p2 v4 v5 v7) (P69l0 p0 p1 p2 r) := by
 refine F69l0.partial_correctness p0 p1 p2 (motive := fun v6 v7 v4 v5 r => TL Try.prog 3 3 c69.s2.s2.s1.bd.bd (st 29 [(0, pt 0 0), (3, pt 3 0), (5, fo 4 v6 v7.length)]) (H69_10 p0 p1 p2 v4 v5 v7) (P69l0 p0 p1 p2 r)) ?_ v6 v7 v4 v5 r hF
 clear hF r v6 v7 v4 v5
 intro again ih v6 v7 v4 v5 r hF
 refine TL.round (TS.sq (TS.sq ?_))
 have hX := of_do hF
 clear hF
 obtain ⟨o14, h15, hF⟩ := hX
 replace h15 := Option.some.inj h15
 refine TS.dp [] (fun e he => by cases he) mixed 7 [0, 3, 5, 15] [0, 1, 2, 3, 4] (st 29 [(0, pt 0 0), (3, pt 3 0), (5, fo 4 v6 v7.length), (15, .bool (!((o14.1 == v4) && ((o14.2 == v5) && true))))]) (H69_10 p0 p1 p2 v4 v5 v7) ?_ ?_
 · exact QJ.rn (qs (st 29 [(0, pt 0 0), (3, pt 3 0), (5, fo 4 v6 v7.length), (8, pt 0 0), (9, pt 0 0), (10, pt 0 2), (11, .map (some 2)), (12, ag [iv v4, .bool v5])]) (H69_10 p0 p1 p2 v4 v5 v7) [] []) 5 (QJ.o { val := ag [iv o14.1, .bool o14.2] } (q_gN Try.prog (H69_10 p0 p1 p2 v4 v5 v7) 124 2 p2 (v4, v5) 50 50 u50 u50 (ag [iv v4, .bool v5]) (0, false) u50_fit u50_eq h15) (QJ.rn (qs (st 29 [(0, pt 0 0), (3, pt 3 0), (5, fo 4 v6 v7.length), (8, pt 0 0), (9, pt 0 0), (10, pt 0 2), (11, .map (some 2)), (12, ag [iv v4, .bool v5]), (13, ag [iv o14.1, .bool o14.2]), (14, ag [iv v4, .bool v5])]) (H69_10 p0 p1 p2 v4 v5 v7) [] []) 1 (QJ.dn ⟨rfl, SJ.la⟩)))
 refine TS.cd (.tmp 15) (!((o14.1 == v4) && ((o14.2 == v5) && true))) (fun hc17 => ?_) (fun hc17 => ?_)
 · replace hF := of_pos hF hc17
   refine TS.sk (NX.sq (TS.bk 1 (TS.sq ?_)))
   refine TS.dp [] (fun e he => by cases he) mixed 5 [0, 3, 5] [0, 1, 2, 3, 4] (st 29 [(0, pt 0 0), (3, pt 3 0), (5, fo 4 v6 v7.length)]) [cl 126 [iv p0, sv 1 p1.length ANY, .map (some 2)], ab 86 e86 p1, mb 50 u50 u50 p2, cl 50 [iv o14.1, .bool o14.2], .cells 50 (List.flatMap e50 v7)] ?_ ?_
   · exact QJ.rn (qs (st 29 [(0, pt 0 0), (3, pt 3 0), (5, fo 4 v6 v7.length), (15, .bool (!((o14.1 == v4) && ((o14.2 == v5) && true)))), (16, pt 0 0), (17, pt 0 0), (18, pt 0 2), (19, .map (some 2)), (20, ag [iv v4, .bool v5])]) (H69_10 p0 p1 p2 v4 v5 v7) [] []) 5 (QJ.dn ⟨rfl, (SJ.o { val := ag [iv o14.1, .bool o14.2] } (q_gN Try.prog (H69_10 p0 p1 p2 v4 v5 v7) 124 2 p2 (v4, v5) 50 50 u50 u50 (ag [iv v4, .bool v5]) (0, false) u50_fit u50_eq h15) SJ.la)⟩)
   have hX := of_guard hF
   clear hF
   obtain ⟨hg18, hF⟩ := hX
   refine TS.rg (TI.rn 3 [0, 3, 22, 24] [0, 1, 2, 3, 4, 5] (st 29 [(0, pt 0 0), (3, pt 3 0), (22, fo 4 v6 v7.length), (24, sv 5 1 1)]) [cl 126 [iv p0, sv 1 p1.length ANY, .map (some 2)], ab 86 e86 p1, mb 50 u50 u50 p2, cl 50 [iv o14.1, .bool o14.2], .cells 50 (List.flatMap e50 v7), cl 50 [iv o14.1, .bool o14.2]] (TI.fapp (s := 2) (enc := e50) (ts := #[25, 25]) (e := 50) (bytes := 16) (z := ag [iv 0, .bool false]) (y := sv 5 1 1) (ys := [(o14.1, o14.2)]) (l := v7) (f := v6) (b := 4) (by kernel_rfl) (by kernel_rfl) (by decide) (by kernel_rfl) (by kernel_rfl) (by kernel_rfl) (by kernel_rfl) (by kernel_rfl) (by kernel_rfl) (by kernel_rfl) (cells_ok (fun _ => rfl)) (fun _ => rfl) (by simp only [List.length_cons, List.length_nil]; omega) hg18 [0, 3, 25] [0, 1, 2, 3, 6] (by decide) (a2 := (st 29 [(0, pt 0 0), (3, pt 3 0), (25, sv 6 (List.length (v7 ++ [(o14.1, o14.2)])) UNK)])) (h2 := [cl 126 [iv p0, sv 1 p1.length ANY, .map (some 2)], ab 86 e86 p1, mb 50 u50 u50 p2, cl 50 [iv o14.1, .bool o14.2], .dead, .dead, .cells 50 (List.flatMap e50 (v7 ++ [(o14.1, o14.2)]))]) (by kernel_rfl) (TI.ra 1 [0, 3, 5] (st 29 [(0, pt 0 0), (3, pt 3 0), (5, sv 6 (List.length (v7 ++ [(o14.1, o14.2)])) UNK)]) (TI.dn (NX.bk ?_)))))
   exact Rd.again (a2 := (st 29 [(0, pt 0 0), (3, pt 3 0), (5, fo 4 false (List.length (v7 ++ [(o14.1, o14.2)])))])) (h2 := [cl 126 [iv p0, sv 1 p1.length ANY, .map (some 2)], ab 86 e86 p1, mb 50 u50 u50 p2, cl 50 [iv o14.1, .bool o14.2], .cells 50 (List.flatMap e50 (v7 ++ [(o14.1, o14.2)]))]) (Wk.an [3, 6] (.lt (.fl (.sl (.cons (Rn.map _ (Nat.le_of_ble_eq_true rfl)) .nil))) (.ac (.cons (At.blk (by kernel_rfl) (RnB.map _ _)) (.lt (.fl (.fl .nil)) (.cons (At.blk (by kernel_rfl) (RnB.list (fun _ => rfl))) (.nil _)))))) [pt 0 0, pt 3 0, sv 6 (List.length (v7 ++ [(o14.1, o14.2)])) UNK] (.pp (.pp (.cons (Rn.foF (i' := 6) (Nat.le_of_ble_eq_true (by rfl)) (by rfl) (by first | rfl | simp only [List.length_set])) .nil)))) (ih false (v7 ++ [(o14.1, o14.2)]) o14.1 o14.2 _ hF)
 replace hF := of_neg hF hc17
 refine TS.ex 0 (NX.sqX ?_)
 have hF := Option.some.inj hF
 subst hF
 exact Rd.out (e := .exit 0) (by intro h; cases h) (And.intro rfl (Wk.an [4] (.lt (.fl (.sl (.cons (Rn.map _ (Nat.le_of_ble_eq_true rfl)) .nil))) (.ac (.cons (At.blk (by kernel_rfl) (RnB.map _ _)) (.cons (At.blk (by kernel_rfl) (RnB.list (fun _ => rfl))) (.nil _))))) [fo 4 v6 v7.length] (.cons (Rn.fo (i' := 4) (Nat.le_of_ble_eq_true (by rfl)) (by rfl) (by first | rfl | simp only [List.length_set])) .nil)))
def P69l1 (p0 : Int) (p1 : (List ((Int × Bool) × (Int × Bool)))) (p2 : (List ((Int × Bool) × (Int × Bool)))) (r19 : (Bool × (List (Int × Bool)))) (r : (List (Int × Bool))) : Post := fun e a h => e = .exit 0 ∧ Wk Try.prog 3 4 a h (st 28 []) [cl 126 [iv p0, sv 1 p1.length ANY, .map (some 2)], ab 86 e86 p1, mb 50 u50 u50 p2, .cells 50 (List.flatMap e50 r)]
theorem L69l1 (p0 : Int) (p1 : (List ((Int × Bool) × (Int × Bool)))) (p2 : (List ((Int × Bool) × (Int × Bool)))) (r19 : (Bool × (List (Int × Bool)))) (v29 : Int) (v30 : Int) (v28 : (List (Int × Bool))) (r : (List (Int × Bool))) (hF : F69l1 p0 p1 p2 r19 v29 v30 v28 = some r) : TL Try.prog 3 4 c69f82.s2.bd.bd (st 28 [(0, fo 3 r19.1 v28.length), (2, iv v29), (3, iv v30)]) (H69_11 p0 p1 p2 v28) (P69l1 p0 p1 p2 r19 r) := by
 refine F69l1.partial_correctness p0 p1 p2 r19 (motive := fun v29 v30 v28 r => TL Try.prog 3 4 c69f82.s2.bd.bd (st 28 [(0, fo 3 r19.1 v28.length), (2, iv v29), (3, iv v30)]) (H69_11 p0 p1 p2 v28) (P69l1 p0 p1 p2 r19 r)) ?_ v29 v30 v28 r hF
 clear hF r v29 v30 v28
 intro again ih v29 v30 v28 r hF
 refine TL.round (TS.sq (TS.sq (TS.rg (TI.ra 3 [0, 2, 3, 9] (st 28 [(0, fo 3 r19.1 v28.length), (2, iv v29), (3, iv v30), (9, .bool (decide (v29 < v30)))]) (TI.dn (NX.sq ?_))))))
 refine TS.cd (.tmp 9) (decide (v29 < v30)) (fun hc40 => ?_) (fun hc40 => ?_)
 · replace hF := of_pos hF hc40
   refine TS.sk (NX.sq (TS.sq (TS.bk 1 ?_)))
   have hX := of_guard hF
   clear hF
   obtain ⟨hg41, hF⟩ := hX
   have hX := of_do hF
   clear hF
   obtain ⟨o42, h43, hF⟩ := hX
   replace h43 := Option.some.inj h43
   have hX := of_guard hF
   clear hF
   obtain ⟨hg44, hF⟩ := hX
   have hX := of_do hF
   clear hF
   obtain ⟨o45, h46, hF⟩ := hX
   replace h46 := Option.some.inj h46
   refine TS.drawE (id := 3) (b := true) (ops := c69f82.s2.bd.bd.s2.s1.bd.rops) (fin := (qs (S69_1 r19 v28 v29 v30 o42 o45) (H69_9 p0 p1 p2 v28 v29 o42) [] [(13, 3)])) (fin2 := (qs (S69_1 r19 v28 v29 v30 o42 o45) (H69_9 p0 p1 p2 v28 v29 o42) [] [(13, 3)])) (a1 := (S69_0 r19 v28 v29 v30 o42 o45)) (h1 := (H69_7 p0 p1 p2 v28 v29 o42 v30 o45)) [] (fun e he => by cases he) mixed (by kernel_rfl) rfl 14 (by kernel_rfl) [(13, 3)] ?_ rfl (.inr ⟨?_, (by kernel_rfl)⟩) ?_ ?_
   · refine QI.run (s1 := (qs (S69_8 r19 v28 v29 v30) (H69_11 p0 p1 p2 v28) [] [])) 6 (by kernel_rfl) (by kernel_rfl) (QI.op (q := { val := .pointer (some ⟨3, 0 + (Int.toNat v30) * 2, none⟩) }) (s1 := (qs (S69_6 r19 v28 v29 v30) (H69_11 p0 p1 p2 v28) [] [])) (by decide) (q_ixS 3 0 ((Int.toNat v30) * 2) (by kernel_rfl) hg41) (by kernel_rfl) (QI.op (q := { val := ag [iv o42.1, .bool o42.2] }) (s1 := (qs (S69_5 r19 v28 v29 v30 o42) (H69_11 p0 p1 p2 v28) [] [])) (by decide) (q_nA Try.prog (H69_11 p0 p1 p2 v28) 50 3 (0 + (Int.toNat v30) * 2) v28 e50 2 50 (Int.toNat v30) (0, false) h43) (by kernel_rfl) (QI.run (s1 := (qs (S69_4 r19 v28 v29 v30 o42) (H69_11 p0 p1 p2 v28) [] [])) 2 (by kernel_rfl) (by kernel_rfl) (QI.op (q := { val := .pointer (some ⟨3, 0 + (Int.toNat v29) * 2, none⟩) }) (s1 := (qs (S69_3 r19 v28 v29 v30 o42) (H69_11 p0 p1 p2 v28) [] [])) (by decide) (q_ixS 3 0 ((Int.toNat v29) * 2) (by kernel_rfl) hg44) (by kernel_rfl) (QI.op (q := { val := ag [iv o45.1, .bool o45.2] }) (s1 := (qs (S69_2 r19 v28 v29 v30 o42 o45) (H69_11 p0 p1 p2 v28) [] [])) (by decide) (q_nA Try.prog (H69_11 p0 p1 p2 v28) 50 3 (0 + (Int.toNat v29) * 2) v28 e50 2 50 (Int.toNat v29) (0, false) h46) (by kernel_rfl) (QI.op (q := { val := .pointer (some ⟨3, 0 + (Int.toNat v29) * 2, none⟩) }) (s1 := (qs (S69_1 r19 v28 v29 v30 o42 o45) (H69_11 p0 p1 p2 v28) [] [])) (by decide) (q_ixS 3 0 ((Int.toNat v29) * 2) (by kernel_rfl) hg44) (by kernel_rfl) ?_))))))
     exact QI.op (q := { val := undef, upd := some (3, .cells 50 (List.flatMap e50 (List.set v28 (Int.toNat v29) (o42.1, o42.2)))) }) (s1 := (qs (S69_1 r19 v28 v29 v30 o42 o45) (H69_9 p0 p1 p2 v28 v29 o42) [] [(13, 3)])) (by decide) (q_stP Try.prog 3 (H69_11 p0 p1 p2 v28) 50 3 (0 + (Int.toNat v29) * 2) v28 e50 2 50 (Int.toNat v29) 0 2 (ag [iv o42.1, .bool o42.2]) [iv o42.1, .bool o42.2] (0, false) (o42.1, o42.2) (by first | omega | (simp <;> omega))) (by kernel_rfl) (QI.done (by kernel_rfl))
   · refine QI.run (s1 := (qs (S69_8 r19 v28 v29 v30) (H69_11 p0 p1 p2 v28) [] [])) 6 (by kernel_rfl) (by kernel_rfl) (QI.op (q := { val := .pointer (some ⟨3, 0 + (Int.toNat v30) * 2, none⟩) }) (s1 := (qs (S69_6 r19 v28 v29 v30) (H69_11 p0 p1 p2 v28) [] [])) (by decide) (q_ixS 3 0 ((Int.toNat v30) * 2) (by kernel_rfl) hg41) (by kernel_rfl) (QI.op (q := { val := ag [iv o42.1, .bool o42.2] }) (s1 := (qs (S69_5 r19 v28 v29 v30 o42) (H69_11 p0 p1 p2 v28) [] [])) (by decide) (q_nA Try.prog (H69_11 p0 p1 p2 v28) 50 3 (0 + (Int.toNat v30) * 2) v28 e50 2 50 (Int.toNat v30) (0, false) h43) (by kernel_rfl) (QI.run (s1 := (qs (S69_4 r19 v28 v29 v30 o42) (H69_11 p0 p1 p2 v28) [] [])) 2 (by kernel_rfl) (by kernel_rfl) (QI.op (q := { val := .pointer (some ⟨3, 0 + (Int.toNat v29) * 2, none⟩) }) (s1 := (qs (S69_3 r19 v28 v29 v30 o42) (H69_11 p0 p1 p2 v28) [] [])) (by decide) (q_ixS 3 0 ((Int.toNat v29) * 2) (by kernel_rfl) hg44) (by kernel_rfl) (QI.op (q := { val := ag [iv o45.1, .bool o45.2] }) (s1 := (qs (S69_2 r19 v28 v29 v30 o42 o45) (H69_11 p0 p1 p2 v28) [] [])) (by decide) (q_nA Try.prog (H69_11 p0 p1 p2 v28) 50 3 (0 + (Int.toNat v29) * 2) v28 e50 2 50 (Int.toNat v29) (0, false) h46) (by kernel_rfl) (QI.op (q := { val := .pointer (some ⟨3, 0 + (Int.toNat v29) * 2, none⟩) }) (s1 := (qs (S69_1 r19 v28 v29 v30 o42 o45) (H69_11 p0 p1 p2 v28) [] [])) (by decide) (q_ixS 3 0 ((Int.toNat v29) * 2) (by kernel_rfl) hg44) (by kernel_rfl) ?_))))))
     exact QI.op (q := { val := undef, upd := some (3, .cells 50 (List.flatMap e50 (List.set v28 (Int.toNat v29) (o42.1, o42.2)))) }) (s1 := (qs (S69_1 r19 v28 v29 v30 o42 o45) (H69_9 p0 p1 p2 v28 v29 o42) [] [(13, 3)])) (by decide) (q_stP Try.prog 3 (H69_11 p0 p1 p2 v28) 50 3 (0 + (Int.toNat v29) * 2) v28 e50 2 50 (Int.toNat v29) 0 2 (ag [iv o42.1, .bool o42.2]) [iv o42.1, .bool o42.2] (0, false) (o42.1, o42.2) (by first | omega | (simp <;> omega))) (by kernel_rfl) (QI.done (by kernel_rfl))
   · refine SI.op (q := { val := .pointer (some ⟨3, 0 + (Int.toNat v30) * 2, none⟩) }) (a2 := (S69_0 r19 v28 v29 v30 o42 o45)) (h2 := (H69_9 p0 p1 p2 v28 v29 o42)) (by kernel_rfl) (q_ixS 3 0 ((Int.toNat v30) * 2) (by kernel_rfl) hg41) (by kernel_rfl) (by kernel_rfl) ?_
     exact SI.op (q := { val := undef, upd := some (3, .cells 50 (List.flatMap e50 (List.set (List.set v28 (Int.toNat v29) (o42.1, o42.2)) (Int.toNat v30) (o45.1, o45.2)))) }) (a2 := (S69_0 r19 v28 v29 v30 o42 o45)) (h2 := (H69_7 p0 p1 p2 v28 v29 o42 v30 o45)) (by kernel_rfl) (q_stP Try.prog 3 (H69_9 p0 p1 p2 v28 v29 o42) 50 3 (0 + (Int.toNat v30) * 2) (List.set v28 (Int.toNat v29) (o42.1, o42.2)) e50 2 50 (Int.toNat v30) 0 2 (ag [iv o45.1, .bool o45.2]) [iv o45.1, .bool o45.2] (0, false) (o45.1, o45.2) (by first | omega | (simp <;> omega))) (by kernel_rfl) (by kernel_rfl) (SI.done (by kernel_rfl))
   refine NX.bk (NX.sq (TS.rg (TI.ra 6 [0, 2, 3] (st 28 [(0, fo 3 r19.1 v28.length), (2, iv (w64 (v29 + 1))), (3, iv (w64 (v30 - 1)))]) (TI.dn ?_))))
   exact Rd.again (a2 := (st 28 [(0, fo 3 r19.1 (List.length (List.set (List.set v28 (Int.toNat v29) (o42.1, o42.2)) (Int.toNat v30) (o45.1, o45.2)))), (2, iv (w64 (v29 + 1))), (3, iv (w64 (v30 - 1)))])) (h2 := (H69_7 p0 p1 p2 v28 v29 o42 v30 o45)) (Wk.an [] (.lt (.fl (.sl (.cons (Rn.map _ (Nat.le_of_ble_eq_true rfl)) .nil))) (.ac (.cons (At.blk (by kernel_rfl) (RnB.map _ _)) (.cons (At.blk (by kernel_rfl) (RnB.list (fun _ => rfl))) (.nil _))))) [fo 3 r19.1 v28.length, iv (w64 (v29 + 1)), iv (w64 (v30 - 1))] (.cons (Rn.fo (i' := 3) (Nat.le_of_ble_eq_true (by rfl)) (by rfl) (by first | rfl | simp only [List.length_set])) (.fl (.fl .nil)))) (ih (w64 (v29 + 1)) (w64 (v30 - 1)) (List.set (List.set v28 (Int.toNat v29) (o42.1, o42.2)) (Int.toNat v30) (o45.1, o45.2)) _ hF)
 replace hF := of_neg hF hc40
 refine TS.ex 0 (NX.sqX ?_)
 have hF := Option.some.inj hF
 subst hF
 exact Rd.out (e := .exit 0) (by intro h; cases h) (And.intro rfl (Wk.an [] (.lt (.fl (.sl (.cons (Rn.map _ (Nat.le_of_ble_eq_true rfl)) .nil))) (.ac (.cons (At.blk (by kernel_rfl) (RnB.map _ _)) (.cons (At.blk (by kernel_rfl) (RnB.list (fun _ => rfl))) (.nil _))))) [] .nil))
theorem B69 (p0 : Int) (p1 : (List ((Int × Bool) × (Int × Bool)))) (p2 : (List ((Int × Bool) × (Int × Bool)))) (p3 : Int) (p4 : Bool) (r : (List (Int × Bool))) (hF : F69 p0 p1 p2 p3 p4 = some r) : TS Try.prog 3 3 c69 (st 29 [(0, pt 0 0), (1, ag [iv p3, .bool p4])]) [cl 126 [iv p0, sv 1 p1.length ANY, .map (some 2)], ab 86 e86 p1, mb 50 u50 u50 p2] (NX Try.prog 3 3 [] (FinP Try.prog Try.f69 3 (V69 3 r) (N69 3 r))) := by
 unfold F69 at hF
 refine TS.sq (TS.rg (TI.rn 2 [0, 3] [0, 1, 2, 3] (st 29 [(0, pt 0 0), (3, pt 3 0)]) [cl 126 [iv p0, sv 1 p1.length ANY, .map (some 2)], ab 86 e86 p1, mb 50 u50 u50 p2, cl 50 [iv p3, .bool p4]] (TI.dn (NX.sq (TS.sq (TS.rg (TI.rn 3 [0, 3, 5] [0, 1, 2, 3, 4] (st 29 [(0, pt 0 0), (3, pt 3 0), (5, sv 4 1 1)]) [cl 126 [iv p0, sv 1 p1.length ANY, .map (some 2)], ab 86 e86 p1, mb 50 u50 u50 p2, cl 50 [iv p3, .bool p4], cl 50 [iv p3, .bool p4]] (TI.dn ?_))))))))
 refine NX.sq (TS.sq (TS.bk 0 ?_))
 have hX := of_do hF
 clear hF
 obtain ⟨r19, h20, hF⟩ := hX
 refine TS.lp (TL.weak (a2 := (st 29 [(0, pt 0 0), (3, pt 3 0), (5, fo 4 true (List.length ([(p3, p4)])))])) (h2 := [cl 126 [iv p0, sv 1 p1.length ANY, .map (some 2)], ab 86 e86 p1, mb 50 u50 u50 p2, cl 50 [iv p3, .bool p4], .cells 50 (List.flatMap e50 ([(p3, p4)]))]) (Wk.an [3, 4] (.lt (.fl (.sl (.cons (Rn.map _ (Nat.le_of_ble_eq_true rfl)) .nil))) (.ac (.cons (At.blk (by kernel_rfl) (RnB.map _ _)) (.lt (.fl (.fl .nil)) (.cons (At.blk (by kernel_rfl) (RnB.list (fun _ => rfl))) (.nil _)))))) [pt 0 0, pt 3 0, sv 4 1 1] (.pp (.pp (.cons (Rn.foT (i' := 4) (Nat.le_of_ble_eq_true (by rfl)) (by rfl) rfl) .nil)))) (TL.post (L69l0 p0 p1 p2 true ([(p3, p4)]) p3 p4 r19 h20) ?_))
 rintro e a1 h1 hp
 obtain ⟨rfl, hw⟩ := hp
 refine ⟨(st 29 [(5, fo 3 r19.1 r19.2.length)]), [cl 126 [iv p0, sv 1 p1.length ANY, .map (some 2)], ab 86 e86 p1, mb 50 u50 u50 p2, .cells 50 (List.flatMap e50 r19.2)], (NX.bkX (NX.sq (TS.sq (TS.rg (TI.ra 1 [5, 26] (st 29 [(5, fo 3 r19.1 r19.2.length), (26, fo 3 r19.1 r19.2.length)]) (TI.inline (g := 82) (args := [fo 3 r19.1 r19.2.length]) (fn := Try.f82) (c := c69f82) (n := 4) (by kernel_rfl) (by kernel_rfl) (by kernel_rfl) (by kernel_rfl) (by kernel_rfl) [0] (a2 := (st 28 [(0, fo 3 r19.1 r19.2.length)])) (by kernel_rfl) (TS.sq (TS.rg ?_)))))))), hw⟩
 refine TI.ra 5 [0, 2, 3] (st 28 [(0, fo 3 r19.1 r19.2.length), (2, iv 0), (3, iv (w64 ((r19.2.length : Int) - 1)))]) (TI.dn (NX.sq (TS.bk 0 ?_)))
 have hX := of_do hF
 clear hF
 obtain ⟨r47, h48, hF⟩ := hX
 refine TS.lp (TL.weak (a2 := (st 28 [(0, fo 3 r19.1 r19.2.length), (2, iv 0), (3, iv (w64 ((r19.2.length : Int) - 1)))])) (h2 := [cl 126 [iv p0, sv 1 p1.length ANY, .map (some 2)], ab 86 e86 p1, mb 50 u50 u50 p2, .cells 50 (List.flatMap e50 r19.2)]) (Wk.an [] (.lt (.fl (.sl (.cons (Rn.map _ (Nat.le_of_ble_eq_true rfl)) .nil))) (.ac (.cons (At.blk (by kernel_rfl) (RnB.map _ _)) (.cons (At.blk (by kernel_rfl) (RnB.list (fun _ => rfl))) (.nil _))))) [fo 3 r19.1 r19.2.length, iv 0, iv (w64 ((r19.2.length : Int) - 1))] (.cons (Rn.fo (i' := 3) (Nat.le_of_ble_eq_true (by rfl)) (by rfl) (by first | rfl | simp only [List.length_set])) (.fl (.fl .nil)))) (TL.post (L69l1 p0 p1 p2 r19 0 (w64 ((r19.2.length : Int) - 1)) r19.2 r47 h48) ?_))
 rintro e a1 h1 hp
 obtain ⟨rfl, hw⟩ := hp
 refine ⟨(st 28 []), (H69_12 p0 p1 p2 r47), (NX.bkX ?_), hw⟩
 have hX := of_guard hF
 clear hF
 obtain ⟨hg49, hF⟩ := hX
 refine ⟨.inl rfl, rfl, .tuple ⟨[]⟩, .tuple ⟨[]⟩, (H69_12 p0 p1 p2 r47), by kernel_rfl, WkV.refl, (TI.weak (Wk.eq (congrArg (fun nn => putAt c69.s2.s2.s2.s1.rops 1 (st 29 [(5, fo 3 r19.1 nn), (26, fo 3 r19.1 nn)]) (.tuple ⟨[]⟩)) hg49.symm)) (TI.rn 0 [5] [0, 1, 2, 3] (st 29 [(5, fo 3 r19.1 r47.length)]) (H69_12 p0 p1 p2 r47) (TI.dn (NX.sq (TS.sq (TS.rg (TI.ra 2 [4] (st 29 [(4, fo 3 r19.1 r47.length)]) (TI.dn ?_))))))))⟩
 refine NX.sq (TS.rt ?_)
 have hF := Option.some.inj hF
 subst hF
 exact ⟨.inr rfl, rfl, fo 3 r19.1 r47.length, by kernel_rfl, WkV.made (L := 3) (f := [3]) (by decide) (by decide) rfl (.cons (At.accU (by kernel_rfl) rfl (fun _ => rfl)) (.nil _)) (Rn.win (i := 3) (i' := 3) (off := 0) (Nat.le_of_ble_eq_true rfl) rfl (by first | rfl | simp only [List.length_set]))⟩
theorem C69 (p0 : Int) (p1 : (List ((Int × Bool) × (Int × Bool)))) (p2 : (List ((Int × Bool) × (Int × Bool)))) (p3 : Int) (p4 : Bool) (r : (List (Int × Bool))) (hF : F69 p0 p1 p2 p3 p4 = some r) : PureSim Try.prog 69 [pt 0 0, ag [iv p3, .bool p4]] [cl 126 [iv p0, sv 1 p1.length ANY, .map (some 2)], ab 86 e86 p1, mb 50 u50 u50 p2] (V69 3 r) (N69 3 r) :=
 PureSim.of_Fin Try.func69 (c := c69) (by kernel_rfl) (by kernel_rfl) 3 rfl [0, 1] [0, 1, 2] (by kernel_rfl) (B69 p0 p1 p2 p3 p4 r hF)
noncomputable def c28 : Code := Try.f28.code
def H28_0 (p1 : (List ((Int × Bool) × (Int × Bool)))) (p4 : Int) (p5 : Bool) (p0 : Int) (p2 : Int) (p3 : Bool) : List Blk := [ab 86 e86 p1, .dead, .dead, cl 50 [iv p4, .bool p5], .dead, .dead, .map 50 (List.map (mEnc u50 u50) ([] : (List ((Int × Bool) × (Int × Bool))))), cl 126 [iv p0, sv 0 p1.length ANY, .map (some 6)], cl 50 [iv p2, .bool p3]]
def H28_1 (p1 : (List ((Int × Bool) × (Int × Bool)))) (p2 : Int) (p3 : Bool) (p4 : Int) (p5 : Bool) (p0 : Int) : List Blk := [ab 86 e86 p1, .dead, cl 50 [iv p2, .bool p3], cl 50 [iv p4, .bool p5], .dead, .dead, .map 50 (List.map (mEnc u50 u50) ([] : (List ((Int × Bool) × (Int × Bool))))), cl 126 [iv p0, sv 0 p1.length ANY, .map (some 6)]]
noncomputable def c28f66 : Code := Try.f66.code
def F28 (p0 : Int) (p1 : (List ((Int × Bool) × (Int × Bool)))) (p2 : Int) (p3 : Bool) (p4 : Int) (p5 : Bool) : Option ((List (Int × Bool)) × Int) :=
 F26 p0 p1 >>= fun r1 =>
 if r1 != 0 then
  some ([], r1)
 else
  F64 p0 p1 ([(p2, p3), (p4, p5)]) >>= fun r4 =>
  if !r4 then
   some ([], 6)
  else
   F67 1 p0 p1 ([] : (List ((Int × Bool) × (Int × Bool)))) ([(p2, p3)]) >>= fun r7 =>
   F68 p0 p1 r7 p4 p5 >>= fun r9 =>
   if !r9 then
    some ([], 14)
   else
    F69 p0 p1 r7 p4 p5 >>= fun r12 =>
    some (r12, 0)
def V28 (b : Nat) (r : ((List (Int × Bool)) × Int)) : Value := .tuple ⟨[.slice (some ⟨b + 0, 0, none⟩) r.1.length ANY, iv r.2]⟩
def N28 (b : Nat) (r : ((List (Int × Bool)) × Int)) : List Blk := [ab 50 e50 r.1]
theorem B28 (p0 : Int) (p1 : (List ((Int × Bool) × (Int × Bool)))) (p2 : Int) (p3 : Bool) (p4 : Int) (p5 : Bool) (r : ((List (Int × Bool)) × Int)) (hF : F28 p0 p1 p2 p3 p4 p5 = some r) : TS Try.prog 1 1 c28 (st 36 [(0, ag [iv p0, sv 0 p1.length ANY]), (1, ag [iv p2, .bool p3]), (2, ag [iv p4, .bool p5])]) [ab 86 e86 p1] (NX Try.prog 1 1 [] (FinP Try.prog Try.f28 1 (V28 1 r) (N28 1 r))) := by
 unfold F28 at hF
 refine TS.sq (TS.rg (TI.rn 5 [3, 4, 5] [0, 1, 2, 3] (st 36 [(3, pt 1 0), (4, pt 2 0), (5, pt 3 0)]) [ab 86 e86 p1, cl 24 [iv p0, sv 0 p1.length ANY], cl 50 [iv p2, .bool p3], cl 50 [iv p4, .bool p5]] (TI.dn (NX.sq (TS.sq ?_)))))
 have hX := of_do hF
 clear hF
 obtain ⟨r1, h2, hF⟩ := hX
 refine TS.rg (TI.ra 1 [3, 4, 5, 10] (st 36 [(3, pt 1 0), (4, pt 2 0), (5, pt 3 0), (10, ag [iv p0, sv 0 p1.length ANY])]) (TI.cp 26 [ag [iv p0, sv 0 p1.length ANY]] (iv r1) [] (PureSim.ren (hc := [ab 86 e86 p1]) (fun i => List.getD [(0, 0)] i (0, 0)) (C26 _ _ _ h2) (.ac (.nil _)) (.cons (Rn.agg' (.fl (.cons (Rn.any _ _ _ _ _ _ (Nat.le_of_ble_eq_true rfl) rfl rfl (by decide)) .nil))) .nil) (.flat (by kernel_rfl)) newflat_nil) (TI.ra 1 [3, 4, 5, 8] (st 36 [(3, pt 1 0), (4, pt 2 0), (5, pt 3 0), (8, iv r1)]) (TI.dn (NX.sq (TS.sq (TS.bk 0 (TS.sq ?_))))))))
 refine TS.rg (TI.ra 3 [3, 4, 5, 8, 12] (st 36 [(3, pt 1 0), (4, pt 2 0), (5, pt 3 0), (8, iv r1), (12, .bool (r1 != 0))]) (TI.dn (NX.sq ?_)))
 refine TS.cd (.tmp 12) (r1 != 0) (fun hc3 => ?_) (fun hc3 => ?_)
 · replace hF := of_pos hF hc3
   refine TS.sq (TS.rg (TI.rn 3 [6, 7] [0] (st 36 [(6, .slice none 0 0), (7, iv r1)]) [ab 86 e86 p1, .dead, .dead, .dead] (TI.dn (NX.sq (TS.rt (NX.bkR (NX.sqR ?_)))))))
   have hF := Option.some.inj hF
   subst hF
   exact ⟨.inr rfl, rfl, .tuple ⟨[.slice none 0 0, iv r1]⟩, by kernel_rfl, WkV.made (L := 1) (f := [4]) (by decide) (by decide) rfl (.cons At.accN (.nil _)) (Rn.tuple' (.cons (Rn.anyN _ _ _ rfl (by decide)) (.fl .nil)))⟩
 replace hF := of_neg hF hc3
 refine TS.sq ?_
 have hX := of_do hF
 clear hF
 obtain ⟨r4, h5, hF⟩ := hX
 refine TS.rg (TI.rn 4 [3, 4, 5, 17, 20] [0, 1, 2, 3, 4] (st 36 [(3, pt 1 0), (4, pt 2 0), (5, pt 3 0), (17, ag [iv p0, sv 0 p1.length ANY]), (20, sv 4 2 2)]) [ab 86 e86 p1, cl 24 [iv p0, sv 0 p1.length ANY], cl 50 [iv p2, .bool p3], cl 50 [iv p4, .bool p5], cl 50 [iv p2, .bool p3, iv p4, .bool p5]] (TI.cp 64 [ag [iv p0, sv 0 p1.length ANY], sv 4 2 2] (.bool r4) [] (PureSim.ren (hc := [ab 86 e86 p1, accB 50 (List.length ([(p2, p3), (p4, p5)])) (List.flatMap e50 ([(p2, p3), (p4, p5)]))]) (fun i => List.getD [(0, 0), (4, 0)] i (0, 0)) (C64 _ _ _ _ h5) (.ac (.cons (At.accU (by kernel_rfl) rfl (fun _ => rfl)) (.nil _))) (.cons (Rn.agg' (.fl (.cons (Rn.any _ _ _ _ _ _ (Nat.le_of_ble_eq_true rfl) rfl rfl (by decide)) .nil))) (.cons (Rn.any _ _ _ _ _ _ (Nat.le_of_ble_eq_true rfl) rfl rfl (by decide)) .nil)) (.flat (by kernel_rfl)) newflat_nil) (TI.rn 2 [3, 4, 5, 16] [0, 1, 2, 3] (st 36 [(3, pt 1 0), (4, pt 2 0), (5, pt 3 0), (16, .bool (!r4))]) [ab 86 e86 p1, cl 24 [iv p0, sv 0 p1.length ANY], cl 50 [iv p2, .bool p3], cl 50 [iv p4, .bool p5], .dead] (TI.dn (NX.sq ?_)))))
 refine TS.cd (.tmp 16) (!r4) (fun hc6 => ?_) (fun hc6 => ?_)
 · replace hF := of_pos hF hc6
   refine TS.sq (TS.rg (TI.rn 2 [6, 7] [0] (st 36 [(6, .slice none 0 0), (7, iv 6)]) [ab 86 e86 p1, .dead, .dead, .dead, .dead] (TI.dn (NX.sq (TS.rt (NX.bkR (NX.sqR ?_)))))))
   have hF := Option.some.inj hF
   subst hF
   exact ⟨.inr rfl, rfl, .tuple ⟨[.slice none 0 0, iv 6]⟩, by kernel_rfl, WkV.made (L := 1) (f := [5]) (by decide) (by decide) rfl (.cons At.accN (.nil _)) (Rn.tuple' (.cons (Rn.anyN _ _ _ rfl (by decide)) (.fl .nil)))⟩
 replace hF := of_neg hF hc6
 refine TS.sk (NX.bk (NX.sq (TS.sq (TS.rg (TI.rn 1 [4, 5, 23] [0, 2, 3] (st 36 [(4, pt 2 0), (5, pt 3 0), (23, ag [iv p0, sv 0 p1.length ANY])]) [ab 86 e86 p1, .dead, cl 50 [iv p2, .bool p3], cl 50 [iv p4, .bool p5], .dead] (TI.inline (g := 66) (args := [ag [iv p0, sv 0 p1.length ANY]]) (fn := Try.f66) (c := c28f66) (n := 5) (by kernel_rfl) (by kernel_rfl) (by kernel_rfl) (by kernel_rfl) (by kernel_rfl) [0] (a2 := (st 7 [(0, ag [iv p0, sv 0 p1.length ANY])])) (by kernel_rfl) (TS.sq (TS.rg ?_))))))))
 refine TI.rn 2 [1] [0, 2, 3, 5] (st 7 [(1, pt 5 0)]) [ab 86 e86 p1, .dead, cl 50 [iv p2, .bool p3], cl 50 [iv p4, .bool p5], .dead, cl 24 [iv p0, sv 0 p1.length ANY]] (TI.dn (NX.sq (TS.sq (TS.rg (TI.rn 5 [2] [0, 2, 3, 6, 7] (st 7 [(2, pt 7 0)]) (H28_1 p1 p2 p3 p4 p5 p0) (TI.dn (NX.sq (TS.rt ?_))))))))
 refine ⟨.inr rfl, rfl, pt 7 0, pt 7 0, (H28_1 p1 p2 p3 p4 p5 p0), by kernel_rfl, WkV.refl, (TI.rn 0 [4, 5, 24] [0, 2, 3, 6, 7] (st 36 [(4, pt 2 0), (5, pt 3 0), (24, pt 7 0)]) (H28_1 p1 p2 p3 p4 p5 p0) (TI.ra 1 [4, 5, 9] (st 36 [(4, pt 2 0), (5, pt 3 0), (9, pt 7 0)]) (TI.dn (NX.sq (TS.sq ?_)))))⟩
 have hX := of_do hF
 clear hF
 obtain ⟨r7, h8, hF⟩ := hX
 refine TS.rg (TI.rn 3 [5, 9, 25, 27] [0, 3, 6, 7, 8] (st 36 [(5, pt 3 0), (9, pt 7 0), (25, pt 7 0), (27, sv 8 1 1)]) (H28_0 p1 p4 p5 p0 p2 p3) (TI.icallM (g := 67) (args := [pt 7 0, sv 8 1 1]) (v := .tuple ⟨[]⟩) (by kernel_rfl) (ImpSim.frameB (n := 4) (h := (H28_0 p1 p4 p5 p0 p2 p3)) (ro := [cl 126 [iv p0, sv 1 p1.length ANY, .map (some 3)], ab 86 e86 p1, accB 50 (List.length ([(p2, p3)])) (List.flatMap e50 ([(p2, p3)]))]) (wr := [.map 50 (List.map (mEnc u50 u50) ([] : (List ((Int × Bool) × (Int × Bool)))))]) (wr' := [mb 50 u50 u50 r7]) (fun i => List.getD [(7, 0), (0, 0), (8, 0), (6, 0)] i (0, 0)) (C67 1 _ _ _ _ _ h8) rfl rfl (.cons (At.blk (b1 := cl 126 [iv p0, sv 0 p1.length ANY, .map (some 6)]) (by kernel_rfl) (RnB.lit (.fl (.cons (Rn.any _ _ _ _ _ _ (Nat.le_of_ble_eq_true rfl) rfl rfl (by decide)) (.cons (Rn.map _ (Nat.le_of_ble_eq_true rfl)) .nil))))) (.ac (.cons (At.accU (by kernel_rfl) rfl (fun _ => rfl)) (.cons (At.blk (by kernel_rfl) (RnB.map _ _)) (.nil _))))) (by kernel_rfl) (by kernel_rfl) (by kernel_rfl) (.pp (.cons (Rn.any _ _ _ _ _ _ (Nat.le_of_ble_eq_true rfl) rfl rfl (by decide)) .nil)) (by kernel_rfl)) [5, 9] [0, 3, 6, 7] (a2 := (st 36 [(5, pt 3 0), (9, pt 7 0)])) (h2 := [ab 86 e86 p1, .dead, .dead, cl 50 [iv p4, .bool p5], .dead, .dead, mb 50 u50 u50 r7, cl 126 [iv p0, sv 0 p1.length ANY, .map (some 6)], .dead]) (by kernel_rfl) (TI.dn (NX.sq (TS.sq (TS.sq ?_))))))
 have hX := of_do hF
 clear hF
 obtain ⟨r9, h10, hF⟩ := hX
 refine TS.rg (TI.ra 2 [5, 9, 29, 30] (st 36 [(5, pt 3 0), (9, pt 7 0), (29, pt 7 0), (30, ag [iv p4, .bool p5])]) (TI.cp 68 [pt 7 0, ag [iv p4, .bool p5]] (.bool r9) [] (PureSim.ren (hc := [cl 126 [iv p0, sv 1 p1.length ANY, .map (some 2)], ab 86 e86 p1, mb 50 u50 u50 r7]) (fun i => List.getD [(7, 0), (0, 0), (6, 0)] i (0, 0)) (C68 _ _ _ _ _ _ h10) (.cons (At.blk (b1 := cl 126 [iv p0, sv 0 p1.length ANY, .map (some 6)]) (by kernel_rfl) (RnB.lit (.fl (.cons (Rn.any _ _ _ _ _ _ (Nat.le_of_ble_eq_true rfl) rfl rfl (by decide)) (.cons (Rn.map _ (Nat.le_of_ble_eq_true rfl)) .nil))))) (.ac (.cons (At.blk (by kernel_rfl) (RnB.map _ _)) (.nil _)))) (.pp (.fl .nil)) (.flat (by kernel_rfl)) newflat_nil) (TI.ra 1 [5, 9, 32] (st 36 [(5, pt 3 0), (9, pt 7 0), (32, .bool (!r9))]) (TI.dn (NX.sq ?_)))))
 refine TS.cd (.tmp 32) (!r9) (fun hc11 => ?_) (fun hc11 => ?_)
 · replace hF := of_pos hF hc11
   refine TS.sq (TS.rg (TI.rn 2 [6, 7] [0] (st 36 [(6, .slice none 0 0), (7, iv 14)]) [ab 86 e86 p1, .dead, .dead, .dead, .dead, .dead, .dead, .dead, .dead] (TI.dn (NX.sq (TS.rt (NX.sqR ?_))))))
   have hF := Option.some.inj hF
   subst hF
   exact ⟨.inr rfl, rfl, .tuple ⟨[.slice none 0 0, iv 14]⟩, by kernel_rfl, WkV.made (L := 1) (f := [9]) (by decide) (by decide) rfl (.cons At.accN (.nil _)) (Rn.tuple' (.cons (Rn.anyN _ _ _ rfl (by decide)) (.fl .nil)))⟩
 replace hF := of_neg hF hc11
 refine TS.sk (NX.sq (TS.sq ?_))
 have hX := of_do hF
 clear hF
 obtain ⟨r12, h13, hF⟩ := hX
 refine TS.rg (TI.rn 2 [33, 34] [0, 6, 7] (st 36 [(33, pt 7 0), (34, ag [iv p4, .bool p5])]) [ab 86 e86 p1, .dead, .dead, .dead, .dead, .dead, mb 50 u50 u50 r7, cl 126 [iv p0, sv 0 p1.length ANY, .map (some 6)], .dead] (TI.cp 69 [pt 7 0, ag [iv p4, .bool p5]] (sv 9 r12.length ANY) [ab 50 e50 r12] (PureSim.ren (hc := [cl 126 [iv p0, sv 1 p1.length ANY, .map (some 2)], ab 86 e86 p1, mb 50 u50 u50 r7]) (fun i => List.getD [(7, 0), (0, 0), (6, 0)] i (0, 0)) (C69 _ _ _ _ _ _ h13) (.cons (At.blk (b1 := cl 126 [iv p0, sv 0 p1.length ANY, .map (some 6)]) (by kernel_rfl) (RnB.lit (.fl (.cons (Rn.any _ _ _ _ _ _ (Nat.le_of_ble_eq_true rfl) rfl rfl (by decide)) (.cons (Rn.map _ (Nat.le_of_ble_eq_true rfl)) .nil))))) (.ac (.cons (At.blk (by kernel_rfl) (RnB.map _ _)) (.nil _)))) (.pp (.fl .nil)) (Rn.anyS (i' := 9) (Nat.le_of_ble_eq_true rfl) rfl rfl) (newflat_cons (accB_flat (fun _ => rfl)) newflat_nil)) (TI.rn 2 [6, 7] [0, 9] (st 36 [(6, sv 9 r12.length ANY), (7, iv 0)]) [ab 86 e86 p1, .dead, .dead, .dead, .dead, .dead, .dead, .dead, .dead, ab 50 e50 r12] (TI.dn (NX.sq (TS.rt ?_))))))
 have hF := Option.some.inj hF
 subst hF
 exact ⟨.inr rfl, rfl, .tuple ⟨[sv 9 r12.length ANY, iv 0]⟩, by kernel_rfl, WkV.made (L := 1) (f := [9]) (by decide) (by decide) rfl (.ac (.nil _)) (Rn.tuple' (.cons (Rn.anyS (Nat.le_of_ble_eq_true rfl) rfl rfl) (.fl .nil)))⟩
theorem C28 (p0 : Int) (p1 : (List ((Int × Bool) × (Int × Bool)))) (p2 : Int) (p3 : Bool) (p4 : Int) (p5 : Bool) (r : ((List (Int × Bool)) × Int)) (hF : F28 p0 p1 p2 p3 p4 p5 = some r) : PureSim Try.prog 28 [ag [iv p0, sv 0 p1.length ANY], ag [iv p2, .bool p3], ag [iv p4, .bool p5]] [ab 86 e86 p1] (V28 1 r) (N28 1 r) :=
 PureSim.of_Fin Try.func28 (c := c28) (by kernel_rfl) (by kernel_rfl) 1 rfl [0, 1, 2] [0] (by kernel_rfl) (B28 p0 p1 p2 p3 p4 p5 r hF)
noncomputable def c83 : Code := Try.f83.code
def H83_0 (p0 : (List ((Int × Bool) × (Int × Bool)))) (p1 : Int) (p2 : Bool) (p3 : Int) (p4 : Bool) : List Blk := [ab 86 e86 p0, cl 86 [iv p1, .bool p2, iv p3, .bool p4]]
def F83l0 (p0 : (List ((Int × Bool) × (Int × Bool)))) (p1 : Int) (p2 : Bool) (p3 : Int) (p4 : Bool) (v6 : Int) : Option (Int ⊕ Unit) :=
 if decide (v6 < (p0.length : Int)) then
  if (0 : Int) ≤ v6 ∧ v6 < (p0.length : Int) then
   some (List.getD p0 (Int.toNat v6) ((0, false), (0, false))) >>= fun o16 =>
   if (((p1 == o16.1.1) && ((p2 == o16.1.2) && true)) && (((p3 == o16.2.1) && ((p4 == o16.2.2) && true)) && true)) then
    some (.inl v6)
   else
    F83l0 p0 p1 p2 p3 p4 (w64 (v6 + 1))
  else none
 else
  some (.inr ())
 partial_fixpoint
def F83 (p0 : (List ((Int × Bool) × (Int × Bool)))) (p1 : Int) (p2 : Bool) (p3 : Int) (p4 : Bool) : Option Int :=
 F83l0 p0 p1 p2 p3 p4 0 >>= fun r19 =>
 match r19 with
 | .inl o21 =>
  some o21
 | .inr o22 =>
  some (-1)
def V83 (b : Nat) (r : Int) : Value := iv r
def N83 (b : Nat) (r : Int) : List Blk := []
def P83l0 (p0 : (List ((Int × Bool) × (Int × Bool)))) (p1 : Int) (p2 : Bool) (p3 : Int) (p4 : Bool) (r : (Int ⊕ Unit)) : Post := fun e a h => (match r with | .inl q0 => e = .ret ∧ Wk Try.prog 1 1 a h (st 19 [(4, iv q0)]) [ab 86 e86 p0] | .inr q0 => e = .exit 0 ∧ Wk Try.prog 1 1 a h (st 19 []) [ab 86 e86 p0])
theorem L83l0 (p0 : (List ((Int × Bool) × (Int × Bool)))) (p1 : Int) (p2 : Bool) (p3 : Int) (p4 : Bool) (v6 : Int) (r : (Int ⊕ Unit)) (hF : F83l0 p0 p1 p2 p3 p4 v6 = some r) : TL Try.prog 1 1 c83.s2.s1.s2.bd.bd (st 19 [(0, sv 0 p0.length ANY), (3, pt 1 0), (7, iv (p0.length : Int)), (8, iv v6)]) (H83_0 p0 p1 p2 p3 p4) (P83l0 p0 p1 p2 p3 p4 r) := by
 refine F83l0.partial_correctness p0 p1 p2 p3 p4 (motive := fun v6 r => TL Try.prog 1 1 c83.s2.s1.s2.bd.bd (st 19 [(0, sv 0 p0.length ANY), (3, pt 1 0), (7, iv (p0.length : Int)), (8, iv v6)]) (H83_0 p0 p1 p2 p3 p4) (P83l0 p0 p1 p2 p3 p4 r)) ?_ v6 r hF
 clear hF r v6
 intro again ih v6 r hF
 refine TL.round (TS.sq (TS.rg (TI.ra 1 [0, 3, 7, 8, 9] (st 19 [(0, sv 0 p0.length ANY), (3, pt 1 0), (7, iv (p0.length : Int)), (8, iv v6), (9, .bool (decide (v6 < (p0.length : Int))))]) (TI.dn (NX.sq (TS.sq ?_))))))
 refine TS.cd (.tmp 9) (decide (v6 < (p0.length : Int))) (fun hc14 => ?_) (fun hc14 => ?_)
 · replace hF := of_pos hF hc14
   refine TS.sk (NX.sq (TS.sq (TS.bk 1 (TS.sq (TS.rg (TI.ra 2 [0, 3, 5, 7, 8] (st 19 [(0, sv 0 p0.length ANY), (3, pt 1 0), (5, iv v6), (7, iv (p0.length : Int)), (8, iv v6)]) (TI.dn (NX.sq ?_))))))))
   refine TS.sq ?_
   have hX := of_guard hF
   clear hF
   obtain ⟨hg15, hF⟩ := hX
   have hX := of_do hF
   clear hF
   obtain ⟨o16, h17, hF⟩ := hX
   replace h17 := Option.some.inj h17
   refine TS.dp [] (fun e he => by cases he) mixed 5 [0, 3, 5, 7, 8, 16] [0, 1] (st 19 [(0, sv 0 p0.length ANY), (3, pt 1 0), (5, iv v6), (7, iv (p0.length : Int)), (8, iv v6), (16, .bool (((p1 == o16.1.1) && ((p2 == o16.1.2) && true)) && (((p3 == o16.2.1) && ((p4 == o16.2.2) && true)) && true)))]) (H83_0 p0 p1 p2 p3 p4) ?_ ?_
   · exact QJ.rn (qs (st 19 [(0, sv 0 p0.length ANY), (3, pt 1 0), (5, iv v6), (7, iv (p0.length : Int)), (8, iv v6), (11, ag [iv p1, .bool p2, iv p3, .bool p4]), (12, sv 0 p0.length ANY), (13, iv v6)]) (H83_0 p0 p1 p2 p3 p4) [] []) 3 (QJ.o { val := .pointer (some ⟨0, 0 + (Int.toNat v6) * 4, none⟩) } (q_ixS 0 0 ((Int.toNat v6) * 4) (by kernel_rfl) hg15) (QJ.o { val := ag [iv o16.1.1, .bool o16.1.2, iv o16.2.1, .bool o16.2.2] } (q_nAa Try.prog (H83_0 p0 p1 p2 p3 p4) 86 0 (0 + (Int.toNat v6) * 4) p0 e86 4 86 (Int.toNat v6) ((0, false), (0, false)) h17) (QJ.dn ⟨rfl, (SJ.o { val := .bool (((p1 == o16.1.1) && ((p2 == o16.1.2) && true)) && (((p3 == o16.2.1) && ((p4 == o16.2.2) && true)) && true)) } (q_eq86 (ox := (.tmp 11)) (oy := (.tmp 15)) (by kernel_rfl)) SJ.dn)⟩)))
   refine TS.cd (.tmp 16) (((p1 == o16.1.1) && ((p2 == o16.1.2) && true)) && (((p3 == o16.2.1) && ((p4 == o16.2.2) && true)) && true)) (fun hc18 => ?_) (fun hc18 => ?_)
   · replace hF := of_pos hF hc18
     refine TS.sq (TS.rg (TI.rn 2 [4] [0] (st 19 [(4, iv v6)]) [ab 86 e86 p0, .dead] (TI.dn (NX.sq (TS.rt (NX.bkR (NX.sqR ?_)))))))
     have hF := Option.some.inj hF
     subst hF
     exact Rd.out (e := .ret) (by intro h; cases h) (And.intro rfl (Wk.an [] (.ac (.nil _)) [iv v6] (.fl .nil)))
   replace hF := of_neg hF hc18
   refine TS.sk (NX.bk (NX.sq (TS.rg (TI.ra 2 [0, 3, 7, 8] (st 19 [(0, sv 0 p0.length ANY), (3, pt 1 0), (7, iv (p0.length : Int)), (8, iv (w64 (v6 + 1)))]) (TI.dn ?_)))))
   exact Rd.again (a2 := (st 19 [(0, sv 0 p0.length ANY), (3, pt 1 0), (7, iv (p0.length : Int)), (8, iv (w64 (v6 + 1)))])) (h2 := (H83_0 p0 p1 p2 p3 p4)) (Wk.an [1] (.ac (.lt (.fl (.fl (.fl (.fl .nil)))) (.nil _))) [sv 0 p0.length ANY, pt 1 0, iv (p0.length : Int), iv (w64 (v6 + 1))] (.sl (.pp (.fl (.fl .nil))))) (ih (w64 (v6 + 1)) _ hF)
 replace hF := of_neg hF hc14
 refine TS.ex 0 (NX.sqX ?_)
 have hF := Option.some.inj hF
 subst hF
 exact Rd.out (e := .exit 0) (by intro h; cases h) (And.intro rfl (Wk.an [] (.ac (.nil _)) [] .nil))
theorem B83 (p0 : (List ((Int × Bool) × (Int × Bool)))) (p1 : Int) (p2 : Bool) (p3 : Int) (p4 : Bool) (r : Int) (hF : F83 p0 p1 p2 p3 p4 = some r) : TS Try.prog 1 1 c83 (st 19 [(0, sv 0 p0.length ANY), (1, ag [iv p1, .bool p2, iv p3, .bool p4])]) [ab 86 e86 p0] (NX Try.prog 1 1 [] (FinP Try.prog Try.f83 1 (V83 1 r) (N83 1 r))) := by
 unfold F83 at hF
 refine TS.sq (TS.rg (TI.rn 2 [0, 3] [0, 1] (st 19 [(0, sv 0 p0.length ANY), (3, pt 1 0)]) (H83_0 p0 p1 p2 p3 p4) (TI.dn (NX.sq (TS.sq (TS.sq (TS.rg (TI.ra 3 [0, 3, 7, 8] (st 19 [(0, sv 0 p0.length ANY), (3, pt 1 0), (7, iv (p0.length : Int)), (8, iv 0)]) ?_))))))))
 refine TI.dn (NX.sq (TS.bk 0 ?_))
 have hX := of_do hF
 clear hF
 obtain ⟨r19, h20, hF⟩ := hX
 refine TS.lp (TL.weak (a2 := (st 19 [(0, sv 0 p0.length ANY), (3, pt 1 0), (7, iv (p0.length : Int)), (8, iv 0)])) (h2 := (H83_0 p0 p1 p2 p3 p4)) (Wk.an [1] (.ac (.lt (.fl (.fl (.fl (.fl .nil)))) (.nil _))) [sv 0 p0.length ANY, pt 1 0, iv (p0.length : Int), iv 0] (.sl (.pp (.fl (.fl .nil))))) (TL.post (L83l0 p0 p1 p2 p3 p4 0 r19 h20) ?_))
 rintro e a1 h1 hp
 rcases r19 with o21 | o22
 · skip
   obtain ⟨rfl, hw⟩ := hp
   refine ⟨(st 19 [(4, iv o21)]), [ab 86 e86 p0], (NX.bkR (NX.sqR ?_)), hw⟩
   have hF := Option.some.inj hF
   subst hF
   exact ⟨.inr rfl, rfl, iv o21, by kernel_rfl, WkV.flat0 (by kernel_rfl) (Nat.le_of_ble_eq_true rfl)⟩
 skip
 obtain ⟨rfl, hw⟩ := hp
 refine ⟨(st 19 []), [ab 86 e86 p0], (NX.bkX (NX.sq (TS.sq (TS.rg (TI.ra 1 [4] (st 19 [(4, iv (-1))]) (TI.dn (NX.sq (TS.rt ?_)))))))), hw⟩
 have hF := Option.some.inj hF
 subst hF
 exact ⟨.inr rfl, rfl, iv (-1), by kernel_rfl, WkV.flat0 (by kernel_rfl) (Nat.le_of_ble_eq_true rfl)⟩
theorem C83 (p0 : (List ((Int × Bool) × (Int × Bool)))) (p1 : Int) (p2 : Bool) (p3 : Int) (p4 : Bool) (r : Int) (hF : F83 p0 p1 p2 p3 p4 = some r) : PureSim Try.prog 83 [sv 0 p0.length ANY, ag [iv p1, .bool p2, iv p3, .bool p4]] [ab 86 e86 p0] (V83 1 r) (N83 1 r) :=
 PureSim.of_Fin Try.func83 (c := c83) (by kernel_rfl) (by kernel_rfl) 1 rfl [0, 1] [0] (by kernel_rfl) (B83 p0 p1 p2 p3 p4 r hF)
noncomputable def c73 : Code := Try.f73.code
def F73 (p0 : (List ((Int × Bool) × (Int × Bool)))) (p1 : Int) (p2 : Bool) (p3 : Int) (p4 : Bool) : Option Bool :=
 F83 p0 p1 p2 p3 p4 >>= fun r1 =>
 some (decide (r1 ≥ 0))
def V73 (b : Nat) (r : Bool) : Value := .bool r
def N73 (b : Nat) (r : Bool) : List Blk := []
theorem B73 (p0 : (List ((Int × Bool) × (Int × Bool)))) (p1 : Int) (p2 : Bool) (p3 : Int) (p4 : Bool) (r : Bool) (hF : F73 p0 p1 p2 p3 p4 = some r) : TS Try.prog 1 1 c73 (st 9 [(0, sv 0 p0.length ANY), (1, ag [iv p1, .bool p2, iv p3, .bool p4])]) [ab 86 e86 p0] (NX Try.prog 1 1 [] (FinP Try.prog Try.f73 1 (V73 1 r) (N73 1 r))) := by
 unfold F73 at hF
 refine TS.sq (TS.rg (TI.rn 2 [0, 3] [0, 1] (st 9 [(0, sv 0 p0.length ANY), (3, pt 1 0)]) [ab 86 e86 p0, cl 86 [iv p1, .bool p2, iv p3, .bool p4]] (TI.dn (NX.sq (TS.sq ?_)))))
 have hX := of_do hF
 clear hF
 obtain ⟨r1, h2, hF⟩ := hX
 refine TS.rg (TI.rn 2 [5, 6] [0] (st 9 [(5, sv 0 p0.length ANY), (6, ag [iv p1, .bool p2, iv p3, .bool p4])]) [ab 86 e86 p0, .dead] (TI.cp 83 [sv 0 p0.length ANY, ag [iv p1, .bool p2, iv p3, .bool p4]] (iv r1) [] (PureSim.ren (hc := [ab 86 e86 p0]) (fun i => List.getD [(0, 0)] i (0, 0)) (C83 _ _ _ _ _ _ h2) (.ac (.nil _)) (.cons (Rn.any _ _ _ _ _ _ (Nat.le_of_ble_eq_true rfl) rfl rfl (by decide)) (.fl .nil)) (.flat (by kernel_rfl)) newflat_nil) (TI.ra 2 [4] (st 9 [(4, .bool (decide (r1 ≥ 0)))]) (TI.dn (NX.sq (TS.rt ?_))))))
 have hF := Option.some.inj hF
 subst hF
 exact ⟨.inr rfl, rfl, .bool (decide (r1 ≥ 0)), by kernel_rfl, WkV.flat0 (by kernel_rfl) (Nat.le_of_ble_eq_true rfl)⟩
theorem C73 (p0 : (List ((Int × Bool) × (Int × Bool)))) (p1 : Int) (p2 : Bool) (p3 : Int) (p4 : Bool) (r : Bool) (hF : F73 p0 p1 p2 p3 p4 = some r) : PureSim Try.prog 73 [sv 0 p0.length ANY, ag [iv p1, .bool p2, iv p3, .bool p4]] [ab 86 e86 p0] (V73 1 r) (N73 1 r) :=
 PureSim.of_Fin Try.func73 (c := c73) (by kernel_rfl) (by kernel_rfl) 1 rfl [0, 1] [0] (by kernel_rfl) (B73 p0 p1 p2 p3 p4 r hF)
noncomputable def c30 : Code := Try.f30.code
def S30_0 (p2 : (List (Int × Bool))) (v26 : Int) (p1 : (List ((Int × Bool) × (Int × Bool)))) (r51 : (Int × Bool)) (o46 : (Int × Bool)) : CAct := (st 58 [(1, sv 1 p2.length ANY), (2, pt 2 0), (7, pt 3 0), (8, pt 4 0), (29, .slice (some ⟨1, 0 + Int.toNat 1 * 2, none⟩) (List.length (List.drop (Int.toNat 1) p2)) ANY), (30, iv (List.length (List.drop (Int.toNat 1) p2) : Int)), (31, iv v26), (42, sv 0 p1.length ANY), (45, ag [iv r51.1, .bool r51.2, iv o46.1, .bool o46.2])])
def S30_1 (p2 : (List (Int × Bool))) (v26 : Int) (r53 : Bool) : CAct := (st 58 [(1, sv 1 p2.length ANY), (2, pt 2 0), (7, pt 3 0), (8, pt 4 0), (29, .slice (some ⟨1, 0 + Int.toNat 1 * 2, none⟩) (List.length (List.drop (Int.toNat 1) p2)) ANY), (30, iv (List.length (List.drop (Int.toNat 1) p2) : Int)), (31, iv v26), (46, .bool r53)])
def S30_2 (p2 : (List (Int × Bool))) (v26 : Int) : CAct := (st 58 [(1, sv 1 p2.length ANY), (2, pt 2 0), (29, .slice (some ⟨1, 0 + Int.toNat 1 * 2, none⟩) (List.length (List.drop (Int.toNat 1) p2)) ANY), (30, iv (List.length (List.drop (Int.toNat 1) p2) : Int)), (31, iv (w64 (v26 + 1)))])
def S30_3 (p2 : (List (Int × Bool))) (v26 : Int) : CAct := (st 58 [(1, sv 1 p2.length ANY), (2, pt 2 0), (29, .slice (some ⟨1, 0 + Int.toNat 1 * 2, none⟩) (List.length (List.drop (Int.toNat 1) p2)) ANY), (30, iv (List.length (List.drop (Int.toNat 1) p2) : Int)), (31, iv v26)])
def S30_4 (p2 : (List (Int × Bool))) : CAct := (st 58 [(1, sv 1 p2.length ANY), (2, pt 2 0), (29, .slice (some ⟨1, 0 + Int.toNat 1 * 2, none⟩) (List.length (List.drop (Int.toNat 1) p2)) ANY), (30, iv (List.length (List.drop (Int.toNat 1) p2) : Int)), (31, iv 0)])
def H30_5 (p1 : (List ((Int × Bool) × (Int × Bool)))) (p2 : (List (Int × Bool))) (p0 : Int) (o46 : (Int × Bool)) (r51 : (Int × Bool)) : List Blk := [ab 86 e86 p1, ab 50 e50 p2, cl 24 [iv p0, sv 0 p1.length ANY], cl 50 [iv o46.1, .bool o46.2], cl 50 [iv r51.1, .bool r51.2]]
def H30_6 (p1 : (List ((Int × Bool) × (Int × Bool)))) (p2 : (List (Int × Bool))) (p0 : Int) (o46 : (Int × Bool)) : List Blk := [ab 86 e86 p1, ab 50 e50 p2, cl 24 [iv p0, sv 0 p1.length ANY], cl 50 [iv o46.1, .bool o46.2]]
def H30_7 (p1 : (List ((Int × Bool) × (Int × Bool)))) (p2 : (List (Int × Bool))) (p0 : Int) : List Blk := [ab 86 e86 p1, ab 50 e50 p2, cl 24 [iv p0, sv 0 p1.length ANY], .dead, .dead]
def H30_8 (p1 : (List ((Int × Bool) × (Int × Bool)))) (p2 : (List (Int × Bool))) (p0 : Int) : List Blk := [ab 86 e86 p1, ab 50 e50 p2, cl 24 [iv p0, sv 0 p1.length ANY]]
def H30_9 (p1 : (List ((Int × Bool) × (Int × Bool)))) (p2 : (List (Int × Bool))) : List Blk := [ab 86 e86 p1, ab 50 e50 p2, .dead]
def H30_10 (p1 : (List ((Int × Bool) × (Int × Bool)))) (p2 : (List (Int × Bool))) : List Blk := [ab 86 e86 p1, ab 50 e50 p2]
def F30l0 (p0 : Int) (p1 : (List ((Int × Bool) × (Int × Bool)))) (p2 : (List (Int × Bool))) (v26 : Int) : Option (Unit ⊕ Unit) :=
 if decide (v26 < (List.length (List.drop (Int.toNat 1) p2) : Int)) then
  if (0 : Int) ≤ v26 ∧ v26 < (List.length (List.drop (Int.toNat 1) p2) : Int) then
   some (List.getD (List.drop (Int.toNat 1) p2) (Int.toNat v26) (0, false)) >>= fun o46 =>
   if (0 : Int) ≤ v26 ∧ v26 < (p2.length : Int) then
    some (List.getD p2 (Int.toNat v26) (0, false)) >>= fun o49 =>
    F72 o49.1 o49.2 >>= fun r51 =>
    F73 p1 r51.1 r51.2 o46.1 o46.2 >>= fun r53 =>
    (
     if !r53 then
      F73 p1 o46.1 o46.2 r51.1 r51.2 >>= fun r56 =>
      some (!r56)
     else
      some (false)
    : Option Bool) >>= fun m58 =>
    if m58 then
     some (.inl ())
    else
     F30l0 p0 p1 p2 (w64 (v26 + 1))
   else none
  else none
 else
  some (.inr ())
 partial_fixpoint
def F30 (p0 : Int) (p1 : (List ((Int × Bool) × (Int × Bool)))) (p2 : (List (Int × Bool))) : Option Int :=
 F26 p0 p1 >>= fun r1 =>
 if r1 != 0 then
  some r1
 else
  if (p2.length : Int) == 0 then
   some 2
  else
   if decide ((p2.length : Int) > 100) then
    some 3
   else
    F64 p0 p1 p2 >>= fun r6 =>
    if !r6 then
     some 6
    else
     if (0 : Int) ≤ 1 ∧ 1 ≤ (p2.length : Int) then
      F30l0 p0 p1 p2 0 >>= fun r60 =>
      match r60 with
      | .inl o62 =>
       some 14
      | .inr o63 =>
       some 0
     else none
def V30 (b : Nat) (r : Int) : Value := iv r
def N30 (b : Nat) (r : Int) : List Blk := []
def P30l0 (p0 : Int) (p1 : (List ((Int × Bool) × (Int × Bool)))) (p2 : (List (Int × Bool))) (r : (Unit ⊕ Unit)) : Post := fun e a h => (match r with | .inl q0 => e = .ret ∧ Wk Try.prog 2 2 a h (st 58 [(4, iv 14)]) (H30_10 p1 p2) | .inr q0 => e = .exit 1 ∧ Wk Try.prog 2 2 a h (st 58 []) (H30_10 p1 p2))
theorem L30l0 (p0 : Int) (p1 : (List ((Int × Bool) × (Int × Bool)))) (p2 : (List (Int × Bool))) (v26 : Int) (r : (Unit ⊕ Unit)) (hF : F30l0 p0 p1 p2 v26 = some r) : TL Try.prog 2 2 c30.s2.s2.s2.s1.s2.bd.bd (S30_3 p2 v26) (H30_8 p1 p2 p0) (P30l0 p0 p1 p2 r) := by
 refine F30l0.partial_correctness p0 p1 p2 (motive := fun v26 r => TL Try.prog 2 2 c30.s2.s2.s2.s1.s2.bd.bd (S30_3 p2 v26) (H30_8 p1 p2 p0) (P30l0 p0 p1 p2 r)) ?_ v26 r hF
 clear hF r v26
 intro again ih v26 r hF
 refine TL.round (TS.sq (TS.rg (TI.ra 1 [1, 2, 29, 30, 31, 32] (st 58 [(1, sv 1 p2.length ANY), (2, pt 2 0), (29, .slice (some ⟨1, 0 + Int.toNat 1 * 2, none⟩) (List.length (List.drop (Int.toNat 1) p2)) ANY), (30, iv (List.length (List.drop (Int.toNat 1) p2) : Int)), (31, iv v26), (32, .bool (decide (v26 < (List.length (List.drop (Int.toNat 1) p2) : Int))))]) (TI.dn (NX.sq (TS.sq ?_))))))
 refine TS.cd (.tmp 32) (decide (v26 < (List.length (List.drop (Int.toNat 1) p2) : Int))) (fun hc44 => ?_) (fun hc44 => ?_)
 · replace hF := of_pos hF hc44
   refine TS.sk (NX.sq (TS.sq (TS.bk 2 (TS.sq ?_))))
   have hX := of_guard hF
   clear hF
   obtain ⟨hg45, hF⟩ := hX
   have hX := of_do hF
   clear hF
   obtain ⟨o46, h47, hF⟩ := hX
   replace h47 := Option.some.inj h47
   refine TS.rg (TI.ra 1 [1, 2, 29, 30, 31, 33] (st 58 [(1, sv 1 p2.length ANY), (2, pt 2 0), (29, .slice (some ⟨1, 0 + Int.toNat 1 * 2, none⟩) (List.length (List.drop (Int.toNat 1) p2)) ANY), (30, iv (List.length (List.drop (Int.toNat 1) p2) : Int)), (31, iv v26), (33, iv v26)]) (TI.o { val := .pointer (some ⟨1, 0 + Int.toNat 1 * 2 + (Int.toNat v26) * 2, none⟩) } (q_ixS 1 (0 + Int.toNat 1 * 2) ((Int.toNat v26) * 2) (by kernel_rfl) hg45) [1, 2, 29, 30, 31, 33, 34] [0, 1, 2] (st 58 [(1, sv 1 p2.length ANY), (2, pt 2 0), (29, .slice (some ⟨1, 0 + Int.toNat 1 * 2, none⟩) (List.length (List.drop (Int.toNat 1) p2)) ANY), (30, iv (List.length (List.drop (Int.toNat 1) p2) : Int)), (31, iv v26), (33, iv v26), (34, .pointer (some ⟨1, 0 + Int.toNat 1 * 2 + (Int.toNat v26) * 2, none⟩))]) (H30_8 p1 p2 p0) ?_))
   refine TI.o { val := ag [iv o46.1, .bool o46.2] } (q_eqv (q_ldAW (P := Try.prog) (hp := (H30_8 p1 p2 p0)) (t := 50) (b := 1) (o := 0 + Int.toNat 1 * 2 + (Int.toNat v26) * 2) (off := 0 + Int.toNat 1 * 2) (L := p2) (ys := List.drop (Int.toNat 1) p2) (enc := e50) (s := 2) (T := 50) (i := Int.toNat v26) (win_drop win_all _) (holds_acc (hp := (H30_8 p1 p2 p0)) (b := 1) (T := 50) (enc := e50) (L := p2) (by kernel_rfl)) (by kernel_rfl) (by kernel_rfl) (by kernel_rfl) (fun _ => rfl) rfl (by first | omega | (simp <;> omega)) (0, false)) (congrArg (fun (z : (Int × Bool)) => ({ val := ag [iv z.1, .bool z.2] } : QRes)) h47)) [1, 2, 29, 30, 31, 33, 35] [0, 1, 2] (st 58 [(1, sv 1 p2.length ANY), (2, pt 2 0), (29, .slice (some ⟨1, 0 + Int.toNat 1 * 2, none⟩) (List.length (List.drop (Int.toNat 1) p2)) ANY), (30, iv (List.length (List.drop (Int.toNat 1) p2) : Int)), (31, iv v26), (33, iv v26), (35, ag [iv o46.1, .bool o46.2])]) (H30_8 p1 p2 p0) (TI.rn 3 [1, 2, 6, 7, 29, 30, 31] [0, 1, 2, 3] (st 58 [(1, sv 1 p2.length ANY), (2, pt 2 0), (6, iv v26), (7, pt 3 0), (29, .slice (some ⟨1, 0 + Int.toNat 1 * 2, none⟩) (List.length (List.drop (Int.toNat 1) p2)) ANY), (30, iv (List.length (List.drop (Int.toNat 1) p2) : Int)), (31, iv v26)]) (H30_6 p1 p2 p0 o46) (TI.dn (NX.sq (TS.sq ?_))))
   have hX := of_guard hF
   clear hF
   obtain ⟨hg48, hF⟩ := hX
   have hX := of_do hF
   clear hF
   obtain ⟨o49, h50, hF⟩ := hX
   replace h50 := Option.some.inj h50
   have hX := of_do hF
   clear hF
   obtain ⟨r51, h52, hF⟩ := hX
   refine TS.rg (TI.ra 2 [1, 2, 7, 29, 30, 31, 36, 37] (st 58 [(1, sv 1 p2.length ANY), (2, pt 2 0), (7, pt 3 0), (29, .slice (some ⟨1, 0 + Int.toNat 1 * 2, none⟩) (List.length (List.drop (Int.toNat 1) p2)) ANY), (30, iv (List.length (List.drop (Int.toNat 1) p2) : Int)), (31, iv v26), (36, sv 1 p2.length ANY), (37, iv v26)]) (TI.o { val := .pointer (some ⟨1, 0 + (Int.toNat v26) * 2, none⟩) } (q_ixS 1 0 ((Int.toNat v26) * 2) (by kernel_rfl) hg48) [1, 2, 7, 29, 30, 31, 38] [0, 1, 2, 3] (st 58 [(1, sv 1 p2.length ANY), (2, pt 2 0), (7, pt 3 0), (29, .slice (some ⟨1, 0 + Int.toNat 1 * 2, none⟩) (List.length (List.drop (Int.toNat 1) p2)) ANY), (30, iv (List.length (List.drop (Int.toNat 1) p2) : Int)), (31, iv v26), (38, .pointer (some ⟨1, 0 + (Int.toNat v26) * 2, none⟩))]) (H30_6 p1 p2 p0 o46) (TI.o { val := ag [iv o49.1, .bool o49.2] } (q_nAa Try.prog (H30_6 p1 p2 p0 o46) 50 1 (0 + (Int.toNat v26) * 2) p2 e50 2 50 (Int.toNat v26) (0, false) h50) [1, 2, 7, 29, 30, 31, 39] [0, 1, 2, 3] (st 58 [(1, sv 1 p2.length ANY), (2, pt 2 0), (7, pt 3 0), (29, .slice (some ⟨1, 0 + Int.toNat 1 * 2, none⟩) (List.length (List.drop (Int.toNat 1) p2)) ANY), (30, iv (List.length (List.drop (Int.toNat 1) p2) : Int)), (31, iv v26), (39, ag [iv o49.1, .bool o49.2])]) (H30_6 p1 p2 p0 o46) (TI.cf (C72 _ _ _ h52) (TI.rn 2 [1, 2, 7, 8, 29, 30, 31] [0, 1, 2, 3, 4] (st 58 [(1, sv 1 p2.length ANY), (2, pt 2 0), (7, pt 3 0), (8, pt 4 0), (29, .slice (some ⟨1, 0 + Int.toNat 1 * 2, none⟩) (List.length (List.drop (Int.toNat 1) p2)) ANY), (30, iv (List.length (List.drop (Int.toNat 1) p2) : Int)), (31, iv v26)]) (H30_5 p1 p2 p0 o46 r51) (TI.dn (NX.sq (TS.sq ?_))))))))
   have hX := of_do hF
   clear hF
   obtain ⟨r53, h54, hF⟩ := hX
   have hX := of_do hF
   clear hF
   obtain ⟨m58, hm59, hF⟩ := hX
   have hK : NX Try.prog 2 2 [.sq c30.s2.s2.s2.s1.s2.bd.bd.s2.s2.s1.bd.s2.s2.s2, .bk 2, .sq c30.s2.s2.s2.s1.s2.bd.bd.s2.s2.s2] (Rd Try.prog 2 2 c30.s2.s2.s2.s1.s2.bd.bd (P30l0 p0 p1 p2 r)) .normal (st 58 [(1, sv 1 p2.length ANY), (2, pt 2 0), (29, .slice (some ⟨1, 0 + Int.toNat 1 * 2, none⟩) (List.length (List.drop (Int.toNat 1) p2)) ANY), (30, iv (List.length (List.drop (Int.toNat 1) p2) : Int)), (31, iv v26), (56, .bool m58)]) (H30_7 p1 p2 p0) := by
    refine NX.sq ?_
    cases m58 with
    | true =>
     replace hF := of_pos hF rfl
     refine TS.cdT (.tmp 56) (TS.sq (TS.rg (TI.rn 1 [4] [0, 1] (st 58 [(4, iv 14)]) [ab 86 e86 p1, ab 50 e50 p2, .dead, .dead, .dead] (TI.dn (NX.sq (TS.rt (NX.bkR (NX.sqR ?_))))))))
     have hF := Option.some.inj hF
     subst hF
     exact Rd.out (e := .ret) (by intro h; cases h) (And.intro rfl (Wk.an [] (.ac (.ac (.nil _))) [iv 14] (.fl .nil)))
    | false =>
     replace hF := of_neg hF rfl
     refine TS.cdF (.tmp 56) (TS.sk (NX.bk (NX.sq (TS.rg (TI.ra 2 [1, 2, 29, 30, 31] (S30_2 p2 v26) (TI.dn ?_))))))
     exact Rd.again (a2 := (S30_2 p2 v26)) (h2 := (H30_8 p1 p2 p0)) (Wk.an [2] (.ac (.ac (.lt (.fl (.sl .nil)) (.nil _)))) [sv 1 p2.length ANY, pt 2 0, .slice (some ⟨1, 0 + Int.toNat 1 * 2, none⟩) (List.length (List.drop (Int.toNat 1) p2)) ANY, iv (List.length (List.drop (Int.toNat 1) p2) : Int), iv (w64 (v26 + 1))] (.sl (.pp (.sl (.fl (.fl .nil)))))) (ih (w64 (v26 + 1)) _ hF)
   rcases Bool.eq_false_or_eq_true (!r53) with hc55 | hc55
   · replace hm59 := of_pos hm59 hc55
     have hX := of_do hm59
     clear hm59
     obtain ⟨r56, h57, hm59⟩ := hX
     have hm59 := Option.some.inj hm59
     subst hm59
     exact TS.rg (TI.ra 5 [1, 2, 7, 8, 29, 30, 31, 42, 45] (S30_0 p2 v26 p1 r51 o46) (TI.callM (g := 73) (args := [sv 0 p1.length ANY, ag [iv r51.1, .bool r51.2, iv o46.1, .bool o46.2]]) (v := .bool r53) (new := []) (by kernel_rfl) (PureSim.ren (hc := [ab 86 e86 p1]) (fun i => List.getD [(0, 0)] i (0, 0)) (C73 _ _ _ _ _ _ h54) (.ac (.nil _)) (.cons (Rn.any _ _ _ _ _ _ (Nat.le_of_ble_eq_true rfl) rfl rfl (by decide)) (.fl .nil)) (.flat (by kernel_rfl)) newflat_nil) [1, 2, 7, 8, 29, 30, 31, 46] [0, 1, 2, 3, 4] (a2 := (S30_1 p2 v26 r53)) (h2 := (H30_5 p1 p2 p0 o46 r51)) (by kernel_rfl) (TI.o { val := .bool true } (q_conv (e := !r53) (b := true) (by kernel_rfl) hc55) [1, 2, 7, 8, 29, 30, 31, 47] [0, 1, 2, 3, 4] (st 58 [(1, sv 1 p2.length ANY), (2, pt 2 0), (7, pt 3 0), (8, pt 4 0), (29, .slice (some ⟨1, 0 + Int.toNat 1 * 2, none⟩) (List.length (List.drop (Int.toNat 1) p2)) ANY), (30, iv (List.length (List.drop (Int.toNat 1) p2) : Int)), (31, iv v26), (47, .bool true)]) (H30_5 p1 p2 p0 o46 r51) (TI.rn 6 [1, 2, 29, 30, 31, 48, 50, 53] [0, 1, 2] (st 58 [(1, sv 1 p2.length ANY), (2, pt 2 0), (29, .slice (some ⟨1, 0 + Int.toNat 1 * 2, none⟩) (List.length (List.drop (Int.toNat 1) p2)) ANY), (30, iv (List.length (List.drop (Int.toNat 1) p2) : Int)), (31, iv v26), (48, .bool true), (50, sv 0 p1.length ANY), (53, ag [iv o46.1, .bool o46.2, iv r51.1, .bool r51.2])]) (H30_7 p1 p2 p0) (TI.cp 73 [sv 0 p1.length ANY, ag [iv o46.1, .bool o46.2, iv r51.1, .bool r51.2]] (.bool r56) [] (PureSim.ren (hc := [ab 86 e86 p1]) (fun i => List.getD [(0, 0)] i (0, 0)) (C73 _ _ _ _ _ _ h57) (.ac (.nil _)) (.cons (Rn.any _ _ _ _ _ _ (Nat.le_of_ble_eq_true rfl) rfl rfl (by decide)) (.fl .nil)) (.flat (by kernel_rfl)) newflat_nil) (TI.ra 2 [1, 2, 29, 30, 31, 56] (st 58 [(1, sv 1 p2.length ANY), (2, pt 2 0), (29, .slice (some ⟨1, 0 + Int.toNat 1 * 2, none⟩) (List.length (List.drop (Int.toNat 1) p2)) ANY), (30, iv (List.length (List.drop (Int.toNat 1) p2) : Int)), (31, iv v26), (56, .bool (!r56))]) (TI.dn hK)))))))
   replace hm59 := of_neg hm59 hc55
   have hm59 := Option.some.inj hm59
   subst hm59
   exact TS.rg (TI.ra 5 [1, 2, 7, 8, 29, 30, 31, 42, 45] (S30_0 p2 v26 p1 r51 o46) (TI.callM (g := 73) (args := [sv 0 p1.length ANY, ag [iv r51.1, .bool r51.2, iv o46.1, .bool o46.2]]) (v := .bool r53) (new := []) (by kernel_rfl) (PureSim.ren (hc := [ab 86 e86 p1]) (fun i => List.getD [(0, 0)] i (0, 0)) (C73 _ _ _ _ _ _ h54) (.ac (.nil _)) (.cons (Rn.any _ _ _ _ _ _ (Nat.le_of_ble_eq_true rfl) rfl rfl (by decide)) (.fl .nil)) (.flat (by kernel_rfl)) newflat_nil) [1, 2, 7, 8, 29, 30, 31, 46] [0, 1, 2, 3, 4] (a2 := (S30_1 p2 v26 r53)) (h2 := (H30_5 p1 p2 p0 o46 r51)) (by kernel_rfl) (TI.o { val := .bool false } (q_conv (e := !r53) (b := false) (by kernel_rfl) hc55) [1, 2, 7, 8, 29, 30, 31, 47] [0, 1, 2, 3, 4] (st 58 [(1, sv 1 p2.length ANY), (2, pt 2 0), (7, pt 3 0), (8, pt 4 0), (29, .slice (some ⟨1, 0 + Int.toNat 1 * 2, none⟩) (List.length (List.drop (Int.toNat 1) p2)) ANY), (30, iv (List.length (List.drop (Int.toNat 1) p2) : Int)), (31, iv v26), (47, .bool false)]) (H30_5 p1 p2 p0 o46 r51) (TI.rn 9 [1, 2, 29, 30, 31, 56] [0, 1, 2] (st 58 [(1, sv 1 p2.length ANY), (2, pt 2 0), (29, .slice (some ⟨1, 0 + Int.toNat 1 * 2, none⟩) (List.length (List.drop (Int.toNat 1) p2)) ANY), (30, iv (List.length (List.drop (Int.toNat 1) p2) : Int)), (31, iv v26), (56, .bool false)]) (H30_7 p1 p2 p0) (TI.dn hK)))))
 replace hF := of_neg hF hc44
 refine TS.ex 1 (NX.sqX ?_)
 have hF := Option.some.inj hF
 subst hF
 exact Rd.out (e := .exit 1) (by intro h; cases h) (And.intro rfl (Wk.an [] (.ac (.ac (.nil _))) [] .nil))
theorem B30 (p0 : Int) (p1 : (List ((Int × Bool) × (Int × Bool)))) (p2 : (List (Int × Bool))) (r : Int) (hF : F30 p0 p1 p2 = some r) : TS Try.prog 2 2 c30 (st 58 [(0, ag [iv p0, sv 0 p1.length ANY]), (1, sv 1 p2.length ANY)]) (H30_10 p1 p2) (NX Try.prog 2 2 [] (FinP Try.prog Try.f30 2 (V30 2 r) (N30 2 r))) := by
 unfold F30 at hF
 refine TS.sq (TS.rg (TI.rn 2 [1, 2] [0, 1, 2] (st 58 [(1, sv 1 p2.length ANY), (2, pt 2 0)]) (H30_8 p1 p2 p0) (TI.dn (NX.sq (TS.sq ?_)))))
 have hX := of_do hF
 clear hF
 obtain ⟨r1, h2, hF⟩ := hX
 refine TS.rg (TI.ra 1 [1, 2, 9] (st 58 [(1, sv 1 p2.length ANY), (2, pt 2 0), (9, ag [iv p0, sv 0 p1.length ANY])]) (TI.cp 26 [ag [iv p0, sv 0 p1.length ANY]] (iv r1) [] (PureSim.ren (hc := [ab 86 e86 p1]) (fun i => List.getD [(0, 0)] i (0, 0)) (C26 _ _ _ h2) (.ac (.nil _)) (.cons (Rn.agg' (.fl (.cons (Rn.any _ _ _ _ _ _ (Nat.le_of_ble_eq_true rfl) rfl rfl (by decide)) .nil))) .nil) (.flat (by kernel_rfl)) newflat_nil) (TI.ra 1 [1, 2, 5] (st 58 [(1, sv 1 p2.length ANY), (2, pt 2 0), (5, iv r1)]) (TI.dn (NX.sq (TS.sq (TS.bk 0 (TS.sq ?_))))))))
 refine TS.rg (TI.ra 3 [1, 2, 5, 11] (st 58 [(1, sv 1 p2.length ANY), (2, pt 2 0), (5, iv r1), (11, .bool (r1 != 0))]) (TI.dn (NX.sq ?_)))
 refine TS.cd (.tmp 11) (r1 != 0) (fun hc3 => ?_) (fun hc3 => ?_)
 · replace hF := of_pos hF hc3
   refine TS.sq (TS.rg (TI.rn 2 [4] [0, 1] (st 58 [(4, iv r1)]) (H30_9 p1 p2) (TI.dn (NX.sq (TS.rt (NX.bkR (NX.sqR ?_)))))))
   have hF := Option.some.inj hF
   subst hF
   exact ⟨.inr rfl, rfl, iv r1, by kernel_rfl, WkV.flat0 (by kernel_rfl) (Nat.le_of_ble_eq_true rfl)⟩
 replace hF := of_neg hF hc3
 refine TS.sq (TS.rg (TI.ra 4 [1, 2, 15] (st 58 [(1, sv 1 p2.length ANY), (2, pt 2 0), (15, .bool ((p2.length : Int) == 0))]) (TI.dn (NX.sq ?_))))
 refine TS.cd (.tmp 15) ((p2.length : Int) == 0) (fun hc4 => ?_) (fun hc4 => ?_)
 · replace hF := of_pos hF hc4
   refine TS.sq (TS.rg (TI.rn 1 [4] [0, 1] (st 58 [(4, iv 2)]) (H30_9 p1 p2) (TI.dn (NX.sq (TS.rt (NX.bkR (NX.sqR ?_)))))))
   have hF := Option.some.inj hF
   subst hF
   exact ⟨.inr rfl, rfl, iv 2, by kernel_rfl, WkV.flat0 (by kernel_rfl) (Nat.le_of_ble_eq_true rfl)⟩
 replace hF := of_neg hF hc4
 refine TS.sq (TS.rg (TI.ra 4 [1, 2, 19] (st 58 [(1, sv 1 p2.length ANY), (2, pt 2 0), (19, .bool (decide ((p2.length : Int) > 100)))]) (TI.dn (NX.sq ?_))))
 refine TS.cd (.tmp 19) (decide ((p2.length : Int) > 100)) (fun hc5 => ?_) (fun hc5 => ?_)
 · replace hF := of_pos hF hc5
   refine TS.sq (TS.rg (TI.rn 1 [4] [0, 1] (st 58 [(4, iv 3)]) (H30_9 p1 p2) (TI.dn (NX.sq (TS.rt (NX.bkR (NX.sqR ?_)))))))
   have hF := Option.some.inj hF
   subst hF
   exact ⟨.inr rfl, rfl, iv 3, by kernel_rfl, WkV.flat0 (by kernel_rfl) (Nat.le_of_ble_eq_true rfl)⟩
 replace hF := of_neg hF hc5
 refine TS.sq ?_
 have hX := of_do hF
 clear hF
 obtain ⟨r6, h7, hF⟩ := hX
 refine TS.rg (TI.ra 2 [1, 2, 24, 25] (st 58 [(1, sv 1 p2.length ANY), (2, pt 2 0), (24, ag [iv p0, sv 0 p1.length ANY]), (25, sv 1 p2.length ANY)]) (TI.cp 64 [ag [iv p0, sv 0 p1.length ANY], sv 1 p2.length ANY] (.bool r6) [] (PureSim.ren (hc := (H30_10 p1 p2)) (fun i => List.getD [(0, 0), (1, 0)] i (0, 0)) (C64 _ _ _ _ h7) (.ac (.ac (.nil _))) (.cons (Rn.agg' (.fl (.cons (Rn.any _ _ _ _ _ _ (Nat.le_of_ble_eq_true rfl) rfl rfl (by decide)) .nil))) (.cons (Rn.any _ _ _ _ _ _ (Nat.le_of_ble_eq_true rfl) rfl rfl (by decide)) .nil)) (.flat (by kernel_rfl)) newflat_nil) (TI.ra 2 [1, 2, 23] (st 58 [(1, sv 1 p2.length ANY), (2, pt 2 0), (23, .bool (!r6))]) (TI.dn (NX.sq ?_)))))
 refine TS.cd (.tmp 23) (!r6) (fun hc8 => ?_) (fun hc8 => ?_)
 · replace hF := of_pos hF hc8
   refine TS.sq (TS.rg (TI.rn 1 [4] [0, 1] (st 58 [(4, iv 6)]) (H30_9 p1 p2) (TI.dn (NX.sq (TS.rt (NX.bkR (NX.sqR ?_)))))))
   have hF := Option.some.inj hF
   subst hF
   exact ⟨.inr rfl, rfl, iv 6, by kernel_rfl, WkV.flat0 (by kernel_rfl) (Nat.le_of_ble_eq_true rfl)⟩
 replace hF := of_neg hF hc8
 refine TS.sk (NX.bk (NX.sq (TS.sq (TS.sq ?_))))
 have hX := of_guard hF
 clear hF
 obtain ⟨hg9, hF⟩ := hX
 refine TS.rg (TI.ra 1 [1, 2, 28] (st 58 [(1, sv 1 p2.length ANY), (2, pt 2 0), (28, sv 1 p2.length ANY)]) (TI.o { val := .slice (some ⟨1, 0 + Int.toNat 1 * 2, none⟩) (List.length (List.drop (Int.toNat 1) p2)) ANY } (q_slAlo (P := Try.prog) (t := 25) (e := 50) (s := 2) (b := 1) (off := 0) (ys := p2) (k := .i64) (y := 1) (by kernel_rfl) (by kernel_rfl) (by kernel_rfl) hg9) [1, 2, 29] [0, 1, 2] (st 58 [(1, sv 1 p2.length ANY), (2, pt 2 0), (29, .slice (some ⟨1, 0 + Int.toNat 1 * 2, none⟩) (List.length (List.drop (Int.toNat 1) p2)) ANY)]) (H30_8 p1 p2 p0) (TI.ra 2 [1, 2, 29, 30, 31] (S30_4 p2) (TI.dn (NX.sq (TS.bk 1 ?_))))))
 have hX := of_do hF
 clear hF
 obtain ⟨r60, h61, hF⟩ := hX
 refine TS.lp (TL.weak (a2 := (S30_4 p2)) (h2 := (H30_8 p1 p2 p0)) (Wk.an [2] (.ac (.ac (.lt (.fl (.sl .nil)) (.nil _)))) [sv 1 p2.length ANY, pt 2 0, .slice (some ⟨1, 0 + Int.toNat 1 * 2, none⟩) (List.length (List.drop (Int.toNat 1) p2)) ANY, iv (List.length (List.drop (Int.toNat 1) p2) : Int), iv 0] (.sl (.pp (.sl (.fl (.fl .nil)))))) (TL.post (L30l0 p0 p1 p2 0 r60 h61) ?_))
 rintro e a1 h1 hp
 rcases r60 with o62 | o63
 · skip
   obtain ⟨rfl, hw⟩ := hp
   refine ⟨(st 58 [(4, iv 14)]), (H30_10 p1 p2), (NX.bkR (NX.sqR ?_)), hw⟩
   have hF := Option.some.inj hF
   subst hF
   exact ⟨.inr rfl, rfl, iv 14, by kernel_rfl, WkV.flat0 (by kernel_rfl) (Nat.le_of_ble_eq_true rfl)⟩
 skip
 obtain ⟨rfl, hw⟩ := hp
 refine ⟨(st 58 []), (H30_10 p1 p2), (NX.bkX (NX.sq (TS.sq (TS.rg (TI.ra 1 [4] (st 58 [(4, iv 0)]) (TI.dn (NX.sq (TS.rt ?_)))))))), hw⟩
 have hF := Option.some.inj hF
 subst hF
 exact ⟨.inr rfl, rfl, iv 0, by kernel_rfl, WkV.flat0 (by kernel_rfl) (Nat.le_of_ble_eq_true rfl)⟩
theorem C30 (p0 : Int) (p1 : (List ((Int × Bool) × (Int × Bool)))) (p2 : (List (Int × Bool))) (r : Int) (hF : F30 p0 p1 p2 = some r) : PureSim Try.prog 30 [ag [iv p0, sv 0 p1.length ANY], sv 1 p2.length ANY] (H30_10 p1 p2) (V30 2 r) (N30 2 r) :=
 PureSim.of_Fin Try.func30 (c := c30) (by kernel_rfl) (by kernel_rfl) 2 rfl [0, 1] [0, 1] (by kernel_rfl) (B30 p0 p1 p2 r hF)
end
end Go.Proofs.Ytiaippkjgmccoaa
